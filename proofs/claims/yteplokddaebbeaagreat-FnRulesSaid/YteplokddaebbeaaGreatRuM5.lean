/- The texts Sites, SitesL, CodeSo, Shelf, Sort, Ins15, CodeS, CodeB, LawSs, LawSz, Labels, RuMath, CodeRc, Rule, Cc0, CodeLo, Lows, Counts, Levels, WilfMath, Nd, ChMath in one (gmerge.py). -/
import Derived.Shelf.Sort.Plain
import Derived.Shelf.Slices.In.SortNone
import Derived.Shelf.SlSortCmp.Whole1
import Derived.Test.YteplokddaebbeaaGreatProg
import Derived.Sort.OwnSortedInts
import Derived.Test.YteplokddaebbeaaGreatRuM4
/- Active sites, children, labels: both texts. -/
namespace Go.Proofs.YteplokddaebbeaaGreat
open Go Go.RowKit
set_option maxRecDepth 100000

def sitesT (LL : List (List Int)) (P : List Int) : Nat → List Int
  | 0 => []
  | k + 1 => if avoidsV LL (childW P k) = true then sitesT LL P k ++ [(k : Int)] else sitesT LL P k
def sitesV (LL : List (List Int)) (P : List Int) : List Int := sitesT LL P (P.length + 1)
theorem sitesT_len (LL : List (List Int)) (P : List Int) : ∀ k, (sitesT LL P k).length ≤ k
  | 0 => by simp [sitesT]
  | k + 1 => by
    have := sitesT_len LL P k
    rw [sitesT]
    split
    · simp; omega
    · omega
theorem sitesT_mem {LL : List (List Int)} {P : List Int} : ∀ {k : Nat} {x : Int}, x ∈ sitesT LL P k → 0 ≤ x ∧ x < k ∧ avoidsV LL (childW P x.toNat) = true
  | 0, x, h => by simp [sitesT] at h
  | k + 1, x, h => by
    rw [sitesT] at h
    split at h
    · rename_i h2
      rcases List.mem_append.1 h with h | h
      · obtain ⟨a, b, c⟩ := sitesT_mem h; exact ⟨a, by omega, c⟩
      · simp at h; subst h; exact ⟨by omega, by omega, by simpa using h2⟩
    · obtain ⟨a, b, c⟩ := sitesT_mem h; exact ⟨a, by omega, c⟩
def childrenV (LL : List (List Int)) (P : List Int) : List (List Int) := (sitesV LL P).map fun i => childW P i.toNat
theorem childW_isP {P : List Int} (h : IsP P) (h7 : P.length ≤ 7) {i : Nat} (hi : i ≤ P.length) : IsP (childW P i) := by
  refine isP_of (n := P.length + 1) ?_ (by omega)
  rw [idn_succ, childW]
  have h1 : (P.take i ++ ((P.length : Int) + 1) :: P.drop i).Perm (((P.length : Int) + 1) :: (P.take i ++ P.drop i)) := List.perm_middle
  rw [List.take_append_drop] at h1
  exact h1.trans ((List.Perm.cons _ h.perm).trans (List.perm_append_singleton _ _).symm)

theorem c_active {w : World} {l p : Sl} {LL : List (List Int)} {P : List Int} (hl : RowSS w l LL) (hB : BasisOk LL) (hp : RowI w p P) (hP : P.length ≤ 7) :
    Calls PP F.impl_active #[l.v, p.v] w fun e w' => ∃ s : Sl, e = .returned s.v ∧ OwnI w' w.heap.size s (sitesV LL P) ∧ Below w.heap.size w w' := by
  have hpn : p.n = P.length := by have := hp.n; simpa using this
  have hl8 := hB.1
  refine impl_active.calls l p ?_
  rw [impl_active.E_s, hpn, w64_succ (n := (P.length : Int)) (by omega) (by omega)]
  refine lit0 oneInt (B := w.heap.size) (Nat.le_refl _) ?_
  intro o0 w1 ho0 hg1 _
  refine impl_active.L3_rule _ _ _ _ _ _ _ (I := fun o k w' => 0 ≤ k ∧ k ≤ P.length + 1 ∧ OwnI w' w.heap.size o (sitesT LL P k.toNat) ∧ Below w.heap.size w w') (μ := fun _ k _ => (P.length + 1 - k).toNat) ⟨by omega, by omega, ho0, below_of_grow hg1⟩ ?_
  rintro o k w' ⟨h0, hk, ho, hb⟩
  rw [impl_active.B3_s]
  have hsl := sitesT_len LL P k.toNat
  refine bif_dec (fun h3 => ?_) (fun h3 => ?_)
  · obtain ⟨m, rfl⟩ : ∃ m : Nat, k = m := ⟨k.toNat, by omega⟩
    rw [Int.toNat_natCast] at ho hsl
    refine (c_child (hp.grow hb) (by omega) (i := m) (by omega)).mono ?_
    rintro e w2 ⟨c, rfl, hc, hb2⟩
    refine ⟨c, rfl, ?_⟩
    have hb12 := hb.trans (hb2.mono hb.size)
    refine (c_avoids (hl.grow hb12) hc.row (by rw [childW_length (by omega)]; omega) (by omega) (fun q hq => by have := hB.len q hq; omega)).mono ?_
    rintro e w3 ⟨rfl, hb3⟩
    refine ⟨_, rfl, ?_⟩
    have hb13 := hb12.trans (hb3.mono hb12.size)
    have ho3 := (ho.grow hb2).grow hb3
    have hsc : ((m : Int) + 1).toNat = m + 1 := by omega
    refine bif_intro (fun h4 => ?_) (fun h4 => ?_)
    · refine append_int ho3 hb13.size (by omega) ?_
      intro o' w4 ho4 hg4 _
      refine ⟨o', (m : Int) + 1, by rw [w64_succ h0 (by omega)], ⟨by omega, by omega, ?_, hb13.grown hg4 hb13.size (fun g hg => (ho3.lt g hg).1)⟩, by omega⟩
      rw [hsc, sitesT, if_pos h4]; exact ho4
    · refine ⟨o, (m : Int) + 1, by rw [w64_succ h0 (by omega)], ⟨by omega, by omega, ?_, hb13⟩, by omega⟩
      rw [hsc, sitesT, if_neg (by simp [h4])]; exact ho3
  · rw [impl_active.A3_0_s]
    rw [show k.toNat = P.length + 1 by omega] at ho
    exact ⟨o, rfl, ho, hb⟩
theorem c_l14Sites {w : World} {l p : Sl} {LL : List (List Int)} {P : List Int} (hl : RowSS w l LL) (hB : BasisOk LL) (hp : RowI w p P) (hP : P.length ≤ 7) :
    Calls PP F.spec_l14Sites #[l.v, p.v] w fun e w' => ∃ s : Sl, e = .returned s.v ∧ OwnI w' w.heap.size s (sitesV LL P) ∧ Below w.heap.size w w' := by
  have hpn : p.n = P.length := by have := hp.n; simpa using this
  have hl8 := hB.1
  refine spec_l14Sites.calls l p ?_
  rw [spec_l14Sites.E_s]
  refine lit0 oneInt (B := w.heap.size) (Nat.le_refl _) ?_
  intro o0 w1 ho0 hg1 _
  refine spec_l14Sites.L3_rule _ _ _ _ _ _ (I := fun o k w' => 0 ≤ k ∧ k ≤ P.length + 1 ∧ OwnI w' w.heap.size o (sitesT LL P k.toNat) ∧ Below w.heap.size w w') (μ := fun _ k _ => (P.length + 1 - k).toNat) ⟨by omega, by omega, ho0, below_of_grow hg1⟩ ?_
  rintro o k w' ⟨h0, hk, ho, hb⟩
  rw [spec_l14Sites.B3_s, hpn]
  have hsl := sitesT_len LL P k.toNat
  refine bif_dec (fun h3 => ?_) (fun h3 => ?_)
  · obtain ⟨m, rfl⟩ : ∃ m : Nat, k = m := ⟨k.toNat, by omega⟩
    rw [Int.toNat_natCast] at ho hsl
    refine (c_l14Child (hp.grow hb) (by omega) (i := m) (by omega)).mono ?_
    rintro e w2 ⟨c, rfl, hc, hb2⟩
    refine ⟨c, rfl, ?_⟩
    have hb12 := hb.trans (hb2.mono hb.size)
    refine (c_l12Avoids (hl.grow hb12) hc.row (by rw [childW_length (by omega)]; omega) (by omega) hB.len).mono ?_
    rintro e w3 ⟨rfl, hb3⟩
    refine ⟨_, rfl, ?_⟩
    have hb13 := hb12.trans (hb3.mono hb12.size)
    have ho3 := (ho.grow hb2).grow hb3
    have hsc : ((m : Int) + 1).toNat = m + 1 := by omega
    refine bif_intro (fun h4 => ?_) (fun h4 => ?_)
    · refine append_int ho3 hb13.size (by omega) ?_
      intro o' w4 ho4 hg4 _
      refine ⟨o', (m : Int) + 1, by rw [w64_succ h0 (by omega)], ⟨by omega, by omega, ?_, hb13.grown hg4 hb13.size (fun g hg => (ho3.lt g hg).1)⟩, by omega⟩
      rw [hsc, sitesT, if_pos h4]; exact ho4
    · refine ⟨o, (m : Int) + 1, by rw [w64_succ h0 (by omega)], ⟨by omega, by omega, ?_, hb13⟩, by omega⟩
      rw [hsc, sitesT, if_neg (by simp [h4])]; exact ho3
  · rw [spec_l14Sites.A3_0_s]
    rw [show k.toNat = P.length + 1 by omega] at ho
    exact ⟨o, rfl, ho, hb⟩

/-! ### children -/
theorem c_children {w : World} {l p : Sl} {LL : List (List Int)} {P : List Int} (hl : RowSS w l LL) (hB : BasisOk LL) (hp : RowI w p P) (hP : P.length ≤ 7) :
    Calls PP F.impl_children #[l.v, p.v] w fun e w' => ∃ s : Sl, e = .returned s.v ∧ OwnSS w' w.heap.size s (childrenV LL P) ∧ Below w.heap.size w w' := by
  refine impl_children.calls l p ?_
  rw [impl_children.E_s]
  refine lit0 oneSint (B := w.heap.size) (Nat.le_refl _) ?_
  intro o0 w1 ho0 hg1 _
  have hb1 := below_of_grow hg1
  refine (c_active (hl.grow hb1) hB (hp.grow hb1) hP).mono ?_
  rintro e w2 ⟨t, rfl, ht, hb12⟩
  refine ⟨t, rfl, ?_⟩
  have hb2 := hb1.trans (hb12.mono hb1.size)
  have htn : t.n = (sitesV LL P).length := by have := ht.n; simpa using this
  have hsl := sitesT_len LL P (P.length + 1)
  show impl_children.L3 std p o0 t (t.n : Int) 0 w2 _
  rw [htn]
  refine impl_children.L3_rule _ _ _ _ _ _ _ (I := fun o k w' => 0 ≤ k ∧ k ≤ (sitesV LL P).length ∧ Below w.heap.size w w' ∧ OwnI w' w1.heap.size t (sitesV LL P) ∧ OwnSS w' w.heap.size o (((sitesV LL P).take k.toNat).map fun i => childW P i.toNat)) (μ := fun _ k _ => ((sitesV LL P).length - k).toNat)
    ⟨by omega, by omega, hb2, ht, (OwnSS.nil ho0).grow hb12⟩ ?_
  rintro o k w' ⟨h0, hk, hb, htr, ho⟩
  rw [impl_children.B3_s]
  refine bif_dec (fun h3 => ?_) (fun h3 => ?_)
  · have hlt : k.toNat < (sitesV LL P).length := by omega
    refine RowI.get htr.row h0 (by omega) ?_
    rw [getD_lt hlt]
    have hm := sitesT_mem (List.getElem_mem hlt)
    obtain ⟨m, hm2⟩ : ∃ m : Nat, (sitesV LL P)[k.toNat] = m := ⟨(sitesV LL P)[k.toNat].toNat, by omega⟩
    rw [hm2] at hm ⊢
    refine (c_child (hp.grow hb) (by omega) (i := m) (by omega)).mono ?_
    rintro e w3 ⟨c, rfl, hc, hb3⟩
    refine ⟨c, rfl, ?_⟩
    have hb13 := hb.trans (hb3.mono hb.size)
    have hsl2 : (sitesV LL P).length ≤ 9 := Nat.le_trans hsl (by omega)
    refine append_new ho hb3 hb.size hc (by simp; omega) ?_
    intro o' w4 ho4 hg4 hn4
    refine ⟨o', k + 1, by rw [w64_succ h0 (by omega)], ⟨by omega, by omega, hb13.grown hg4 hb13.size (fun g hg => (ho.lt g hg).1), ?_, ?_⟩, by omega⟩
    · obtain ⟨rs, ho'⟩ := ho
      have htr3 := htr.grow hb3
      exact htr3.kept hg4 fun g e1 e2 => ((ho'.grow hb3).out.apt htr3 (by decide)) g e2 e1
    · rw [show (k + 1).toNat = k.toNat + 1 by omega, List.take_succ_eq_append_getElem hlt, List.map_append, hm2]
      exact ho4
  · rw [impl_children.A3_0_s]
    rw [show k.toNat = (sitesV LL P).length by omega, List.take_length] at ho
    exact ⟨o, rfl, ho, hb⟩
open Classical in
noncomputable def ActiveSitesV (LL : List (List Int)) (P : List Int) : List Int := if InCl LL P ∧ P.length < 8 then sitesV LL P else []
theorem ActiveSitesV_len (LL : List (List Int)) (P : List Int) : (ActiveSitesV LL P).length < 2^38 := by
  unfold ActiveSitesV
  split
  · rename_i h; have := sitesT_len LL P (P.length + 1); rw [sitesV]; omega
  · simp
open Classical in
theorem c_hasSites {w : World} {l p : Sl} {LL : List (List Int)} {P : List Int} (hl : RowSS w l LL) (hL : LL.length < 2^38) (ht : tot LL < 2^37) (hp : RowI w p P) (hP : P.length < 2^37) :
    Calls PP F.impl_hasSites #[l.v, p.v] w fun e w' => e = .returned (.bool (decide (InCl LL P ∧ P.length < 8))) ∧ Below w.heap.size w w' := by
  have hpn : p.n = P.length := by have := hp.n; simpa using this
  refine impl_hasSites.calls l p ?_
  rw [impl_hasSites.E_s, hpn]
  refine (c_implInClass hl hL ht hp hP).mono ?_
  rintro e w1 ⟨rfl, hb1⟩
  refine ⟨_, rfl, ?_⟩
  refine bif_intro (fun h => ?_) (fun h => ?_)
  · have h : InCl LL P := by simpa [InClassV] using h
    refine ⟨?_, hb1⟩
    congr 2
    by_cases h8 : P.length < 8
    · rw [decide_eq_true (by omega), decide_eq_true ⟨h, h8⟩]
    · rw [decide_eq_false (by omega), decide_eq_false (fun hh => h8 hh.2)]
  · have h : ¬ InCl LL P := by simpa [InClassV] using h
    exact ⟨by simp [h], hb1⟩
theorem c_specActiveSites0 {w : World} {l p : Sl} {LL : List (List Int)} {P : List Int} (hl : RowSS w l LL) (hL : LL.length < 2^38) (ht : tot LL < 2^37) (hp : RowI w p P) (hP : P.length < 2^37) :
    Calls PP F.spec_ActiveSites #[l.v, p.v] w fun e w' => ∃ s : Sl, e = .returned s.v ∧ OwnI w' w.heap.size s (ActiveSitesV LL P) ∧ Below w.heap.size w w' := by
  have hpn : p.n = P.length := by have := hp.n; simpa using this
  refine spec_ActiveSites.calls l p ?_
  rw [spec_ActiveSites.E_s, hpn]
  refine (c_specInClass hl hL ht hp hP).mono ?_
  rintro e w1 ⟨rfl, hb1⟩
  refine ⟨_, rfl, ?_⟩
  have no : ¬ (InCl LL P ∧ P.length < 8) → sem1 .sl PP (Instr.buildSlice T_Sint 0 #[]) w1 fun (ρ : Sl) w2 => ∃ s : Sl, (Ending.returned ρ.v) = .returned s.v ∧ OwnI w2 w.heap.size s (ActiveSitesV LL P) ∧ Below w.heap.size w w2 := fun hn => by
    refine lit0 oneInt (B := w.heap.size) hb1.size ?_
    intro s w2 hs hg _
    exact ⟨s, rfl, by rw [ActiveSitesV, if_neg hn]; exact hs, hb1.grown hg hb1.size (by simp)⟩
  refine bif_intro (fun h => ?_) (fun h => ?_)
  · have h : ¬ InCl LL P := by simpa [InClassV] using h
    exact no fun hh => h hh.1
  have h : InCl LL P := by simpa [InClassV] using h
  have h8 := h.2.1.1
  refine bif_intro (fun h2 => ?_) (fun h2 => ?_)
  · have h2 : (P.length : Int) = 8 := by simpa using h2
    exact no fun hh => by omega
  have h2 : (P.length : Int) ≠ 8 := by simpa using h2
  refine (c_l14Sites (hl.grow hb1) h.1 (hp.grow hb1) (by omega)).mono ?_
  rintro e w2 ⟨s, rfl, hs, hb2⟩
  exact ⟨s, rfl, s, rfl, by rw [ActiveSitesV, if_pos ⟨h, by omega⟩]; exact hs.mono hb1.size, hb1.trans (hb2.mono hb1.size)⟩
theorem c_specActiveSites {w : World} {l p : Sl} {LL : List (List Int)} {P : List Int} (hl : RowSS w l LL) (hL : LL.length < 2^38) (ht : tot LL < 2^37) (hp : RowI w p P) (hP : P.length < 2^37) :
    Calls PP F.spec_ActiveSites #[l.v, p.v] w fun e w' => ∃ s : Sl, e = .returned s.v ∧ RowI w' s (ActiveSitesV LL P) ∧ Below w.heap.size w w' :=
  (c_specActiveSites0 hl hL ht hp hP).mono fun e w' ⟨s, h1, h2, h3⟩ => ⟨s, h1, h2.row, h3⟩
/-! ### LabelOf -/
open Classical in
noncomputable def LabelOfV (LL : List (List Int)) (P : List Int) : Int := if InCl LL P ∧ P.length < 8 then ((sitesV LL P).length : Int) else -1
theorem c_implLabelOf {w : World} {l p : Sl} {LL : List (List Int)} {P : List Int} (hl : RowSS w l LL) (hL : LL.length < 2^38) (ht : tot LL < 2^37) (hp : RowI w p P) (hP : P.length < 2^37) :
    Calls PP F.impl_LabelOf #[l.v, p.v] w fun e w' => e = .returned (vI (LabelOfV LL P)) ∧ Below w.heap.size w w' := by
  refine impl_LabelOf.calls l p ?_
  rw [impl_LabelOf.E_s]
  refine (c_hasSites hl hL ht hp hP).mono ?_
  rintro e w1 ⟨rfl, hb1⟩
  refine ⟨_, rfl, ?_⟩
  refine bif_intro (fun h => ?_) (fun h => ?_)
  · have h : ¬ (InCl LL P ∧ P.length < 8) := by simpa using h
    exact ⟨by rw [LabelOfV, if_neg h], hb1⟩
  · have h : InCl LL P ∧ P.length < 8 := by simpa using h
    refine (c_active (hl.grow hb1) h.1.1 (hp.grow hb1) (by omega)).mono ?_
    rintro e w2 ⟨s, rfl, hs, hb2⟩
    have hsn : s.n = (sitesV LL P).length := by have := hs.n; simpa using this
    exact ⟨s, rfl, by rw [hsn, LabelOfV, if_pos h], hb1.trans (hb2.mono hb1.size)⟩
theorem c_specLabelOf {w : World} {l p : Sl} {LL : List (List Int)} {P : List Int} (hl : RowSS w l LL) (hL : LL.length < 2^38) (ht : tot LL < 2^37) (hp : RowI w p P) (hP : P.length < 2^37) :
    Calls PP F.spec_LabelOf #[l.v, p.v] w fun e w' => e = .returned (vI (LabelOfV LL P)) ∧ Below w.heap.size w w' := by
  have hpn : p.n = P.length := by have := hp.n; simpa using this
  refine spec_LabelOf.calls l p ?_
  rw [spec_LabelOf.E_s, hpn]
  refine (c_specInClass hl hL ht hp hP).mono ?_
  rintro e w1 ⟨rfl, hb1⟩
  refine ⟨_, rfl, ?_⟩
  refine bif_intro (fun h => ?_) (fun h => ?_)
  · have h : ¬ InCl LL P := by simpa [InClassV] using h
    exact ⟨by rw [LabelOfV, if_neg (fun hh => h hh.1)], hb1⟩
  have h : InCl LL P := by simpa [InClassV] using h
  have h8 := h.2.1.1
  refine bif_intro (fun h2 => ?_) (fun h2 => ?_)
  · have h2 : (P.length : Int) = 8 := by simpa using h2
    exact ⟨by rw [LabelOfV, if_neg (fun hh => by omega)], hb1⟩
  have h2 : (P.length : Int) ≠ 8 := by simpa using h2
  refine (c_l14Sites (hl.grow hb1) h.1 (hp.grow hb1) (by omega)).mono ?_
  rintro e w2 ⟨s, rfl, hs, hb2⟩
  have hsn : s.n = (sitesV LL P).length := by have := hs.n; simpa using this
  exact ⟨s, rfl, by rw [hsn, LabelOfV, if_pos ⟨h, by omega⟩], hb1.trans (hb2.mono hb1.size)⟩
/-! ### ChildrenOf -/
open Classical in
noncomputable def ChildrenOfV (LL : List (List Int)) (P : List Int) : List (List Int) := if InCl LL P ∧ P.length < 8 then childrenV LL P else []
theorem childrenV_len (LL : List (List Int)) (P : List Int) : (childrenV LL P).length ≤ P.length + 1 := by
  rw [childrenV, List.length_map]; exact sitesT_len LL P (P.length + 1)
theorem childrenV_mem {LL : List (List Int)} {P q : List Int} (h : q ∈ childrenV LL P) : ∃ i : Nat, i ≤ P.length ∧ q = childW P i ∧ avoidsV LL q = true := by
  rw [childrenV, List.mem_map] at h
  obtain ⟨x, hx, rfl⟩ := h
  have := sitesT_mem hx
  exact ⟨x.toNat, by omega, rfl, this.2.2⟩
theorem tot_le_mul' {l : List (List Int)} {n : Nat} (h : ∀ p ∈ l, p.length ≤ n) : tot l ≤ l.length * n := by
  induction l with
  | nil => simp [tot]
  | cons x r ih =>
    have h1 := h x (by simp)
    have h2 := ih (fun p hp => h p (by simp [hp]))
    rw [tot_cons, List.length_cons, Nat.succ_mul]; omega
theorem ChildrenOfV_len (LL : List (List Int)) (P : List Int) : (ChildrenOfV LL P).length < 2^38 ∧ tot (ChildrenOfV LL P) < 2^38 := by
  unfold ChildrenOfV
  split
  · rename_i h
    have h1 := childrenV_len LL P
    have h2 : tot (childrenV LL P) ≤ (childrenV LL P).length * 9 := tot_le_mul' fun q hq => by
      obtain ⟨i, hi, rfl, _⟩ := childrenV_mem hq
      rw [childW_length hi]; omega
    omega
  · simp [tot]
theorem c_specChildrenOf0 {w : World} {l p : Sl} {LL : List (List Int)} {P : List Int} (hl : RowSS w l LL) (hL : LL.length < 2^38) (ht : tot LL < 2^37) (hp : RowI w p P) (hP : P.length < 2^37) :
    Calls PP F.spec_ChildrenOf #[l.v, p.v] w fun e w' => ∃ s : Sl, e = .returned s.v ∧ OwnSS w' w.heap.size s (ChildrenOfV LL P) ∧ Below w.heap.size w w' := by
  refine spec_ChildrenOf.calls l p ?_
  rw [spec_ChildrenOf.E_s]
  refine lit0 oneSint (B := w.heap.size) (Nat.le_refl _) ?_
  intro o0 w1 ho0 hg1 _
  have hb1 := below_of_grow hg1
  refine (c_specActiveSites0 (hl.grow hb1) hL ht (hp.grow hb1) hP).mono ?_
  rintro e w2 ⟨t, rfl, htr0, hb12⟩
  refine ⟨t, rfl, ?_⟩
  have hb2 := hb1.trans (hb12.mono hb1.size)
  have htn : t.n = (ActiveSitesV LL P).length := by have := htr0.n; simpa using this
  have hV : ChildrenOfV LL P = (ActiveSitesV LL P).map fun i => childW P i.toNat := by
    unfold ChildrenOfV ActiveSitesV
    split <;> simp [childrenV]
  have hmem : ∀ x ∈ ActiveSitesV LL P, P.length < 8 ∧ 0 ≤ x ∧ x < ((P.length + 1 : Nat) : Int) := fun x hx => by
    unfold ActiveSitesV at hx
    split at hx
    · rename_i h; have := sitesT_mem hx; exact ⟨h.2, this.1, this.2.1⟩
    · simp at hx
  have hlen9 : (ActiveSitesV LL P).length ≤ 9 := by
    unfold ActiveSitesV
    split
    · rename_i h; have := sitesT_len LL P (P.length + 1); rw [sitesV]; omega
    · simp
  refine spec_ChildrenOf.L4_rule _ _ _ _ _ _ (I := fun o k w' => 0 ≤ k ∧ k ≤ (ActiveSitesV LL P).length ∧ Below w.heap.size w w' ∧ OwnI w' w1.heap.size t (ActiveSitesV LL P) ∧ OwnSS w' w.heap.size o (((ActiveSitesV LL P).take k.toNat).map fun i => childW P i.toNat)) (μ := fun _ k _ => ((ActiveSitesV LL P).length - k).toNat)
    ⟨by omega, by omega, hb2, htr0, (OwnSS.nil ho0).grow hb12⟩ ?_
  rintro o k w' ⟨h0, hk, hb, htr, ho⟩
  rw [spec_ChildrenOf.B4_s, htn]
  refine bif_dec (fun h3 => ?_) (fun h3 => ?_)
  · have hlt : k.toNat < (ActiveSitesV LL P).length := by omega
    refine RowI.get htr.row h0 (by omega) ?_
    rw [getD_lt hlt]
    have hm := hmem _ (List.getElem_mem hlt)
    obtain ⟨m, hm2⟩ : ∃ m : Nat, (ActiveSitesV LL P)[k.toNat] = m := ⟨(ActiveSitesV LL P)[k.toNat].toNat, by omega⟩
    rw [hm2] at hm ⊢
    refine (c_l14Child (hp.grow hb) (by omega) (i := m) (by omega)).mono ?_
    rintro e w3 ⟨c, rfl, hc, hb3⟩
    refine ⟨c, rfl, ?_⟩
    have hb13 := hb.trans (hb3.mono hb.size)
    refine append_new ho hb3 hb.size hc (by simp; omega) ?_
    intro o' w4 ho4 hg4 hn4
    refine ⟨o', k + 1, by rw [w64_succ h0 (by omega)], ⟨by omega, by omega, hb13.grown hg4 hb13.size (fun g hg => (ho.lt g hg).1), ?_, ?_⟩, by omega⟩
    · obtain ⟨rs, ho'⟩ := ho
      have htr3 := htr.grow hb3
      exact htr3.kept hg4 fun g e1 e2 => ((ho'.grow hb3).out.apt htr3 (by decide)) g e2 e1
    · rw [show (k + 1).toNat = k.toNat + 1 by omega, List.take_succ_eq_append_getElem hlt, List.map_append, hm2]
      exact ho4
  · rw [spec_ChildrenOf.A4_0_s]
    rw [show k.toNat = (ActiveSitesV LL P).length by omega, List.take_length] at ho
    exact ⟨o, rfl, by rw [hV]; exact ho, hb⟩
theorem c_specChildrenOf {w : World} {l p : Sl} {LL : List (List Int)} {P : List Int} (hl : RowSS w l LL) (hL : LL.length < 2^38) (ht : tot LL < 2^37) (hp : RowI w p P) (hP : P.length < 2^37) :
    Calls PP F.spec_ChildrenOf #[l.v, p.v] w fun e w' => ∃ s : Sl, e = .returned s.v ∧ RowSS w' s (ChildrenOfV LL P) ∧ Below w.heap.size w w' :=
  (c_specChildrenOf0 hl hL ht hp hP).mono fun e w' ⟨s, h1, h2, h3⟩ => ⟨s, h1, h2.row, h3⟩
end Go.Proofs.YteplokddaebbeaaGreat

/- Stands for the sites that the rule's texts import. -/
namespace Go.Proofs.YteplokddaebbeaaGreat
end Go.Proofs.YteplokddaebbeaaGreat

/- What each function does, step by step, written by a program (Gen.lean); each equation is checked by the kernel. -/
namespace Go.Proofs.YteplokddaebbeaaGreat
open Go
set_option linter.unusedVariables false
set_option maxRecDepth 100000
namespace spec_l15Sort
@[reducible] def cfg : Cfg := ⟨49, [(6, [0, 3, 4, 5]), (3, [0, 3, 4])], [(3, [0, 3, 4, 5]), (2, [0, 3, 4, 5]), (1, [0, 3, 4]), (0, [3])], [], [2], [6], [13, 12, 21, 89, 36, 108, 74, 75, 104, 78, 125], [73, 117, 103, 46, 4, 30, 40]⟩
def q2 (pr : Prims) (R : Ending → World → Prop) : Exit → Env → World → Prop := fun ex e w => normQ ex (fun e w => contE pr cfg (sub (codeOf Tryz.f49) [1, 1, 1]) (fun e w => wpC pr PP cfg (DD pr) (sub (codeOf Tryz.f49) [1, 1, 1]) (retQ Tryz.f49.results.toList R) e w) e w) (retQ Tryz.f49.results.toList R) e w
def q3 (pr : Prims) (R : Ending → World → Prop) : Exit → Env → World → Prop := fun ex e w => blockQ ex 0 (q2 pr R) e w
def q4 (pr : Prims) (k : Env → World → Prop) (Q : Exit → Env → World → Prop) : Exit → Env → World → Prop := fun ex e w => normQ ex (fun e w => contE pr cfg (sub (codeOf Tryz.f49) [1, 1, 0, 1, 0, 0, 1, 1]) (fun e w => wpC pr PP cfg (DD pr) (sub (codeOf Tryz.f49) [1, 1, 0, 1, 0, 0, 1, 1]) (fun ex e w => normQ ex (fun e' w' => k (Env.restr e' (lookN cfg.loops (keyOf (sub (codeOf Tryz.f49) [1, 1, 0, 1, 0, 0])))) w') Q e w) e w) e w) (fun ex e w => normQ ex (fun e' w' => k (Env.restr e' (lookN cfg.loops (keyOf (sub (codeOf Tryz.f49) [1, 1, 0, 1, 0, 0])))) w') Q e w) e w
def q5 (pr : Prims) (k : Env → World → Prop) (Q : Exit → Env → World → Prop) : Exit → Env → World → Prop := fun ex e w => blockQ ex 1 (q4 pr k Q) e w
def q6 (pr : Prims) (k : Env → World → Prop) (Q : Exit → Env → World → Prop) : Exit → Env → World → Prop := fun ex e w => normQ ex (fun e w => contE pr cfg (sub (codeOf Tryz.f49) [1, 1, 0, 1, 0, 0, 1, 0, 0, 1, 1]) (fun e w => wpC pr PP cfg (DD pr) (sub (codeOf Tryz.f49) [1, 1, 0, 1, 0, 0, 1, 0, 0, 1, 1]) (q5 pr k Q) e w) e w) (q5 pr k Q) e w
def q7 (pr : Prims) (k : Env → World → Prop) (Q : Exit → Env → World → Prop) : Exit → Env → World → Prop := fun ex e w => blockQ ex 2 (q6 pr k Q) e w
def emb3 (list_0 : Sl) (out_3 : Sl) (k_4 : Int) : Env := [(0, Sl.v list_0), (3, Sl.v out_3), (4, vI k_4)]
def emb6 (list_0 : Sl) (out_3 : Sl) (k_4 : Int) (at_5 : Int) : Env := [(0, Sl.v list_0), (3, Sl.v out_3), (4, vI k_4), (5, vI at_5)]
def x2 (list_0 : Sl) (out_3 : Sl) (k_4 : Int) (at_5 : Int) : Env := [(0, Sl.v list_0), (3, Sl.v out_3), (4, vI k_4), (5, vI at_5)]
def x0 (out_3 : Sl) : Env := [(3, Sl.v out_3)]
def S6 (pr : Prims) (Q : Exit → Env → World → Prop) : (Env → World → Prop) → Env → World → Prop := fun k e w => wpC pr PP cfg (DD pr) (sub (codeOf Tryz.f49) [1, 1, 0, 1, 0, 0, 1, 0, 0, 1, 0, 0, 0]) (fun ex e w => normQ ex (fun e' w' => k (Env.restr e' (lookN cfg.loops (keyOf (sub (codeOf Tryz.f49) [1, 1, 0, 1, 0, 0, 1, 0, 0, 1, 0, 0, 0])))) w') Q e w) e w
def S3 (pr : Prims) (Q : Exit → Env → World → Prop) : (Env → World → Prop) → Env → World → Prop := fun k e w => wpC pr PP cfg (DD pr) (sub (codeOf Tryz.f49) [1, 1, 0, 1, 0, 0]) (fun ex e w => normQ ex (fun e' w' => k (Env.restr e' (lookN cfg.loops (keyOf (sub (codeOf Tryz.f49) [1, 1, 0, 1, 0, 0])))) w') Q e w) e w
def B6 (pr : Prims) (list_0 : Sl) (out_3 : Sl) (k_4 : Int) (at_5 : Int) (w : World) (k : Env → World → Prop) (Q : Exit → Env → World → Prop) : Prop :=
  S6 pr Q k (emb6 list_0 out_3 k_4 at_5) w
def L6 (pr : Prims) (list_0 : Sl) (out_3 : Sl) (k_4 : Int) (at_5 : Int) (w : World) (Q : Exit → Env → World → Prop) : Prop :=
  pr.loop (S6 pr Q) (emb6 list_0 out_3 k_4 at_5) w
def B3 (pr : Prims) (list_0 : Sl) (out_3 : Sl) (k_4 : Int) (w : World) (k : Env → World → Prop) (Q : Exit → Env → World → Prop) : Prop :=
  S3 pr Q k (emb3 list_0 out_3 k_4) w
def L3 (pr : Prims) (list_0 : Sl) (out_3 : Sl) (k_4 : Int) (w : World) (Q : Exit → Env → World → Prop) : Prop :=
  pr.loop (S3 pr Q) (emb3 list_0 out_3 k_4) w
def E (pr : Prims) (list_0 : Sl) (w : World) (R : Ending → World → Prop) : Prop :=
  wpC pr PP cfg (DD pr) (codeOf Tryz.f49) (retQ Tryz.f49.results.toList R) (argE 0 [Sl.v list_0]) w
theorem B6_eq (pr : Prims) (list_0 : Sl) (out_3 : Sl) (k_4 : Int) (at_5 : Int) (w : World) (k : Env → World → Prop) (Q : Exit → Env → World → Prop) : B6 pr list_0 out_3 k_4 at_5 w k Q = (
  bif decide (at_5 > 0) then (
  pr.idxK 1 list_0 k_4 fun (a8 : Addr) =>
  pr.load1 (.int .i64) a8 w fun (ξ9 : Int) =>
  pr.idxK 1 out_3 (w64 (at_5 - 1)) fun (a10 : Addr) =>
  pr.load1 (.int .i64) a10 w fun (ξ11 : Int) =>
  pr.drewAll w fun ω12 =>
  bif decide (ξ9 < ξ11) then (
  k (emb6 list_0 out_3 k_4 (w64 (at_5 - 1))) ω12)
  else (
  Q (.exit 2) (x2 list_0 out_3 k_4 at_5) ω12))
  else (
  pr.drewAll w fun ω13 =>
  Q (.exit 2) (x2 list_0 out_3 k_4 at_5) ω13)) := by kernel_rfl
theorem B6_s (list_0 : Sl) (out_3 : Sl) (k_4 : Int) (at_5 : Int) (w : World) (k : Env → World → Prop) (Q : Exit → Env → World → Prop) : B6 std list_0 out_3 k_4 at_5 w k Q = (
  bif decide (at_5 > 0) then (
  idxK 1 list_0 k_4 fun (a8 : Addr) =>
  load1 (.int .i64) a8 w fun (ξ9 : Int) =>
  idxK 1 out_3 (w64 (at_5 - 1)) fun (a10 : Addr) =>
  load1 (.int .i64) a10 w fun (ξ11 : Int) =>
  drewAll w fun ω12 =>
  bif decide (ξ9 < ξ11) then (
  k (emb6 list_0 out_3 k_4 (w64 (at_5 - 1))) ω12)
  else (
  Q (.exit 2) (x2 list_0 out_3 k_4 at_5) ω12))
  else (
  drewAll w fun ω13 =>
  Q (.exit 2) (x2 list_0 out_3 k_4 at_5) ω13)) := B6_eq std list_0 out_3 k_4 at_5 w k Q
theorem L6_rule (list_0 : Sl) (out_3 : Sl) (k_4 : Int) (at_5 : Int) (w : World) (Q : Exit → Env → World → Prop) (I : Int → World → Prop) (μ : Int → World → Nat) (h0 : I at_5 w)
    (h : ∀ (at_5 : Int) (w' : World), I at_5 w' → B6 std list_0 out_3 k_4 at_5 w' (fun e2 w2 => ∃ at_5_n, e2 = emb6 list_0 out_3 k_4 at_5_n ∧ I at_5_n w2 ∧ μ at_5_n w2 < μ at_5 w') Q) :
    L6 std list_0 out_3 k_4 at_5 w Q := by
  unfold L6
  refine LoopE.intro (σ := Int) (step := S6 std Q) (fun s => emb6 list_0 out_3 k_4 s) (fun s w => I s w) (fun s w => μ s w) at_5 rfl h0 ?_
  intro s w' hI
  have h1 := h s w' hI
  unfold B6 at h1
  exact h1
theorem A6_2_eq (pr : Prims) (list_0 : Sl) (out_3 : Sl) (k_4 : Int) (at_5 : Int) (w : World) (k : Env → World → Prop) (Q : Exit → Env → World → Prop) : (q7 pr k Q) (.exit 2) (x2 list_0 out_3 k_4 at_5) w = (
  pr.sem1 .sl PP (Instr.buildSlice T_Sint 0 #[]) w fun (ρ14 : Sl) ω15 =>
  pr.cutK 1 out_3 (some at_5) none fun (s16 : Sl) =>
  pr.sem1 .sl PP (Builtin.append_ #[T_Sint, T_Sint] T_Sint #[Sl.v ρ14, Sl.v s16]) ω15 fun (ρ17 : Sl) ω18 =>
  pr.drewAll ω18 fun ω19 =>
  pr.cutK 1 out_3 none (some at_5) fun (s20 : Sl) =>
  pr.idxK 1 list_0 k_4 fun (a21 : Addr) =>
  pr.load1 (.int .i64) a21 ω19 fun (ξ22 : Int) =>
  pr.sem1 .sl PP (Instr.buildSlice T_Sint 1 #[(0, vI ξ22)]) ω19 fun (ρ23 : Sl) ω24 =>
  pr.sem1 .sl PP (Builtin.append_ #[T_Sint, T_Sint] T_Sint #[Sl.v s20, Sl.v ρ23]) ω24 fun (ρ25 : Sl) ω26 =>
  pr.sem1 .sl PP (Builtin.append_ #[T_Sint, T_Sint] T_Sint #[Sl.v ρ25, Sl.v ρ17]) ω26 fun (ρ27 : Sl) ω28 =>
  k (emb3 list_0 ρ27 (w64 (k_4 + 1))) ω28) := by kernel_rfl
theorem A6_2_s (list_0 : Sl) (out_3 : Sl) (k_4 : Int) (at_5 : Int) (w : World) (k : Env → World → Prop) (Q : Exit → Env → World → Prop) : (q7 std k Q) (.exit 2) (x2 list_0 out_3 k_4 at_5) w = (
  sem1 .sl PP (Instr.buildSlice T_Sint 0 #[]) w fun (ρ14 : Sl) ω15 =>
  cutK 1 out_3 (some at_5) none fun (s16 : Sl) =>
  sem1 .sl PP (Builtin.append_ #[T_Sint, T_Sint] T_Sint #[Sl.v ρ14, Sl.v s16]) ω15 fun (ρ17 : Sl) ω18 =>
  drewAll ω18 fun ω19 =>
  cutK 1 out_3 none (some at_5) fun (s20 : Sl) =>
  idxK 1 list_0 k_4 fun (a21 : Addr) =>
  load1 (.int .i64) a21 ω19 fun (ξ22 : Int) =>
  sem1 .sl PP (Instr.buildSlice T_Sint 1 #[(0, vI ξ22)]) ω19 fun (ρ23 : Sl) ω24 =>
  sem1 .sl PP (Builtin.append_ #[T_Sint, T_Sint] T_Sint #[Sl.v s20, Sl.v ρ23]) ω24 fun (ρ25 : Sl) ω26 =>
  sem1 .sl PP (Builtin.append_ #[T_Sint, T_Sint] T_Sint #[Sl.v ρ25, Sl.v ρ17]) ω26 fun (ρ27 : Sl) ω28 =>
  k (emb3 list_0 ρ27 (w64 (k_4 + 1))) ω28) := A6_2_eq std list_0 out_3 k_4 at_5 w k Q
theorem B3_eq (pr : Prims) (list_0 : Sl) (out_3 : Sl) (k_4 : Int) (w : World) (k : Env → World → Prop) (Q : Exit → Env → World → Prop) : B3 pr list_0 out_3 k_4 w k Q = (
  bif decide (k_4 < (list_0.n : Int)) then (
  L6 pr list_0 out_3 k_4 (out_3.n : Int) w (q7 pr k Q))
  else (
  Q (.exit 0) (x0 out_3) w)) := by kernel_rfl
theorem B3_s (list_0 : Sl) (out_3 : Sl) (k_4 : Int) (w : World) (k : Env → World → Prop) (Q : Exit → Env → World → Prop) : B3 std list_0 out_3 k_4 w k Q = (
  bif decide (k_4 < (list_0.n : Int)) then (
  L6 std list_0 out_3 k_4 (out_3.n : Int) w (q7 std k Q))
  else (
  Q (.exit 0) (x0 out_3) w)) := B3_eq std list_0 out_3 k_4 w k Q
theorem L3_rule (list_0 : Sl) (out_3 : Sl) (k_4 : Int) (w : World) (Q : Exit → Env → World → Prop) (I : Sl → Int → World → Prop) (μ : Sl → Int → World → Nat) (h0 : I out_3 k_4 w)
    (h : ∀ (out_3 : Sl) (k_4 : Int) (w' : World), I out_3 k_4 w' → B3 std list_0 out_3 k_4 w' (fun e2 w2 => ∃ out_3_n k_4_n, e2 = emb3 list_0 out_3_n k_4_n ∧ I out_3_n k_4_n w2 ∧ μ out_3_n k_4_n w2 < μ out_3 k_4 w') Q) :
    L3 std list_0 out_3 k_4 w Q := by
  unfold L3
  refine LoopE.intro (σ := Sl × Int) (step := S3 std Q) (fun s => emb3 list_0 s.1 s.2) (fun s w => I s.1 s.2 w) (fun s w => μ s.1 s.2 w) (out_3, k_4) rfl h0 ?_
  intro s w' hI
  have h1 := h s.1 s.2 w' hI
  unfold B3 at h1
  simp only [Prod.exists]
  exact h1
theorem A3_0_eq (pr : Prims) (out_3 : Sl) (w : World) (R : Ending → World → Prop) : (q3 pr R) (.exit 0) (x0 out_3) w = (
  R (.returned (Sl.v out_3)) w) := by kernel_rfl
theorem A3_0_s (out_3 : Sl) (w : World) (R : Ending → World → Prop) : (q3 std R) (.exit 0) (x0 out_3) w = (
  R (.returned (Sl.v out_3)) w) := A3_0_eq std out_3 w R
theorem E_eq (pr : Prims) (list_0 : Sl) (w : World) (R : Ending → World → Prop) : E pr list_0 w R = (
  pr.sem1 .sl PP (Instr.buildSlice T_Sint 0 #[]) w fun (ρ0 : Sl) ω1 =>
  L3 pr list_0 ρ0 0 ω1 (q3 pr R)) := by kernel_rfl
theorem E_s (list_0 : Sl) (w : World) (R : Ending → World → Prop) : E std list_0 w R = (
  sem1 .sl PP (Instr.buildSlice T_Sint 0 #[]) w fun (ρ0 : Sl) ω1 =>
  L3 std list_0 ρ0 0 ω1 (q3 std R)) := E_eq std list_0 w R
theorem drawsOk : drawsOk PP cfg okD (codeOf Tryz.f49) = true := by kernel_rfl
theorem calls (list_0 : Sl) {w : World} {R : Ending → World → Prop} (h : E std list_0 w R) : Calls PP F.spec_l15Sort #[Sl.v list_0] w R :=
  calls_of noCount mixed drawOk Tryz.func49 rfl (c := cfg) (args := [Sl.v list_0]) rfl (Nat.le_of_ble_eq_true (by kernel_rfl)) drawsOk h
end spec_l15Sort

end Go.Proofs.YteplokddaebbeaaGreat

/-
  DERIVED: THE SHELF's CONTRACTS AT THIS DUMP, IN PLAIN WORDS (tools/lay-plain.mjs out of 'TryzShelf.lean', which tools/lay-shelf.mjs wrote): THE SAME DECLARATIONS UNDER THE SAME NAMES: 'import', 'namespace', 'open', 'def', 'theorem' AND NOTHING ELSE: no command of the shelf's: FOR A HAND-IN. Each laying: the table of numbers ('.._ren') and one theorem, a field a fact of the dump's own or the kernel's comparison; each contract: ONE APPLICATION.
-/
namespace Go.Proofs
open Go.Shelf
def Tryz.lays189_ren : Go.Shelf.Ren := ⟨fun | 189 => 70 | 125 => 72 | 257 => 92 | 128 => 101 | 129 => 102 | 294 => 111 | 295 => 112 | 296 => 113 | 297 => 114 | 298 => 115 | 299 => 116 | 216 => 117 | 300 => 118 | 301 => 119 | 328 => 128 | 329 => 121 | 330 => 122 | 331 => 129 | 332 => 130 | 215 => 103 | 343 => 133 | n => n, fun | 28 => 29 | 3 => 3 | 46 => 81 | 0 => 0 | 51 => 100 | 53 => 102 | 4 => 4 | 183 => 93 | 182 => 92 | 131 => 97 | 5 => 5 | 9 => 9 | 218 => 114 | 222 => 118 | 228 => 122 | 229 => 123 | n => n, fun | n => n⟩
theorem Tryz.lays189 : Go.Proofs.Lays.n189 Tryz.prog Tryz.lays189_ren := {
  mixed := by kernel_rfl
  f125 := Tryz.func72.trans (congrArg some (by kernel_rfl))
  f128 := Tryz.func101.trans (congrArg some (by kernel_rfl))
  f129 := Tryz.func102.trans (congrArg some (by kernel_rfl))
  f189 := Tryz.func70.trans (congrArg some (by kernel_rfl))
  f215 := Tryz.func103.trans (congrArg some (by kernel_rfl))
  f216 := Tryz.func117.trans (congrArg some (by kernel_rfl))
  f257 := Tryz.func92.trans (congrArg some (by kernel_rfl))
  f294 := Tryz.func111.trans (congrArg some (by kernel_rfl))
  f295 := Tryz.func112.trans (congrArg some (by kernel_rfl))
  f296 := Tryz.func113.trans (congrArg some (by kernel_rfl))
  f297 := Tryz.func114.trans (congrArg some (by kernel_rfl))
  f298 := Tryz.func115.trans (congrArg some (by kernel_rfl))
  f299 := Tryz.func116.trans (congrArg some (by kernel_rfl))
  f300 := Tryz.func118.trans (congrArg some (by kernel_rfl))
  f301 := Tryz.func119.trans (congrArg some (by kernel_rfl))
  f328 := Tryz.func128.trans (congrArg some (by kernel_rfl))
  f329 := Tryz.func121.trans (congrArg some (by kernel_rfl))
  f330 := Tryz.func122.trans (congrArg some (by kernel_rfl))
  f331 := Tryz.func129.trans (congrArg some (by kernel_rfl))
  f332 := Tryz.func130.trans (congrArg some (by kernel_rfl))
  f343 := Tryz.func133.trans (congrArg some (by kernel_rfl))
  t0 := Tryz.underlying0
  a0 := Tryz.isAgg0
  z0 := Tryz.sizeOf0
  v0 := Tryz.zeroValue0
  t3 := Tryz.underlying3
  a3 := Tryz.isAgg3
  z3 := Tryz.sizeOf3
  v3 := Tryz.zeroValue3
  t4 := Tryz.underlying4
  a4 := Tryz.isAgg4
  z4 := Tryz.sizeOf4
  v4 := Tryz.zeroValue4
  t5 := Tryz.underlying5
  a5 := Tryz.isAgg5
  z5 := Tryz.sizeOf5
  v5 := Tryz.zeroValue5
  t9 := Tryz.underlying9
  a9 := Tryz.isAgg9
  z9 := Tryz.sizeOf9
  v9 := Tryz.zeroValue9
  t28 := Tryz.underlying29
  a28 := Tryz.isAgg29
  z28 := Tryz.sizeOf29
  v28 := Tryz.zeroValue29
  t46 := Tryz.underlying81
  a46 := Tryz.isAgg81
  z46 := Tryz.sizeOf81
  v46 := Tryz.zeroValue81
  t51 := Tryz.underlying100
  a51 := Tryz.isAgg100
  z51 := Tryz.sizeOf100
  v51 := Tryz.zeroValue100
  t53 := Tryz.underlying102
  a53 := Tryz.isAgg102
  z53 := Tryz.sizeOf102
  v53 := Tryz.zeroValue102
  t131 := Tryz.underlying97
  a131 := Tryz.isAgg97
  z131 := Tryz.sizeOf97
  v131 := Tryz.zeroValue97
  t182 := Tryz.underlying92
  a182 := Tryz.isAgg92
  z182 := Tryz.sizeOf92
  v182 := Tryz.zeroValue92
  t183 := Tryz.underlying93
  a183 := Tryz.isAgg93
  z183 := Tryz.sizeOf93
  v183 := Tryz.zeroValue93
  t218 := Tryz.underlying114
  a218 := Tryz.isAgg114
  z218 := Tryz.sizeOf114
  v218 := Tryz.zeroValue114
  t222 := Tryz.underlying118
  a222 := Tryz.isAgg118
  z222 := Tryz.sizeOf118
  v222 := Tryz.zeroValue118
  t228 := Tryz.underlying122
  a228 := Tryz.isAgg122
  z228 := Tryz.sizeOf122
  v228 := Tryz.zeroValue122
  t229 := Tryz.underlying123
  a229 := Tryz.isAgg123
  z229 := Tryz.sizeOf123
  v229 := Tryz.zeroValue123 }
open Go.Sort Go.RowKit in
theorem Tryz.slices_Sort_int (blk off cap : Nat) (zs : List Int) (w : World) (hH : Holds (Value.int .i64) w blk off zs.toArray) (hblk : blk < w.heap.size) (hsz : zs.length < 4611686018427387904) :
    Calls Tryz.prog 70 #[.slice (some ⟨blk, off, none⟩) zs.length cap] w fun e w' =>
      e = .returned (.tuple #[]) ∧ ∃ n os, w' = grow (putRow (Value.int .i64) (Sort.ahead w n) blk off (zs.mergeSort fun x y => decide (x ≤ y)).toArray) os := Any.slices_Sort_int Tryz.lays189 blk off cap zs w hH hblk hsz
open Go.RowKit Go.Sort in
/-- .. and plain. (LAID: no walk: one application.) -/
theorem Tryz.slices_Sort_int_none (p : Option Addr) (cap : Nat) (w : World) :
    Calls Tryz.prog 70 #[.slice p 0 cap] w fun e w' => e = .returned (.tuple #[]) ∧ w' = w := Any.slices_Sort_int_none Tryz.lays189 p cap w
def Tryz.laysSlF6_f55_ren : Go.Shelf.Ren := ⟨fun | 6 => 37 | 15 => 72 | 14 => 71 | 28 => 101 | 29 => 102 | 20 => 93 | 21 => 94 | 22 => 95 | 23 => 96 | 24 => 97 | 25 => 98 | 26 => 99 | 27 => 100 | 46 => 120 | 47 => 121 | 48 => 122 | 49 => 123 | 50 => 124 | 57 => 131 | n => n, fun | 22 => 24 | 24 => 29 | 25 => 57 | 3 => 3 | 39 => 81 | 0 => 0 | 53 => 100 | 55 => 102 | 4 => 4 | 46 => 93 | 45 => 92 | 50 => 97 | 5 => 5 | 9 => 9 | 66 => 114 | 70 => 118 | 76 => 122 | 77 => 123 | n => n, fun | n => n⟩
theorem Tryz.laysSlF6_f55 : Go.Proofs.SlLaysF.n6 Tryz.prog Tryz.laysSlF6_f55_ren := {
  mixed := by kernel_rfl
  f6 := ⟨Tryz.f37.name, by decide, Tryz.func37.trans (congrArg some (by kernel_rfl))⟩
  f14 := ⟨Tryz.f71.name, by decide, Tryz.func71.trans (congrArg some (by kernel_rfl))⟩
  f15 := Tryz.func72.trans (congrArg some (by kernel_rfl))
  f20 := ⟨Tryz.f93.name, by decide, Tryz.func93.trans (congrArg some (by kernel_rfl))⟩
  f21 := ⟨Tryz.f94.name, by decide, Tryz.func94.trans (congrArg some (by kernel_rfl))⟩
  f22 := ⟨Tryz.f95.name, by decide, Tryz.func95.trans (congrArg some (by kernel_rfl))⟩
  f23 := ⟨Tryz.f96.name, by decide, Tryz.func96.trans (congrArg some (by kernel_rfl))⟩
  f24 := ⟨Tryz.f97.name, by decide, Tryz.func97.trans (congrArg some (by kernel_rfl))⟩
  f25 := ⟨Tryz.f98.name, by decide, Tryz.func98.trans (congrArg some (by kernel_rfl))⟩
  f26 := ⟨Tryz.f99.name, by decide, Tryz.func99.trans (congrArg some (by kernel_rfl))⟩
  f27 := ⟨Tryz.f100.name, by decide, Tryz.func100.trans (congrArg some (by kernel_rfl))⟩
  f28 := Tryz.func101.trans (congrArg some (by kernel_rfl))
  f29 := Tryz.func102.trans (congrArg some (by kernel_rfl))
  f46 := ⟨Tryz.f120.name, by decide, Tryz.func120.trans (congrArg some (by kernel_rfl))⟩
  f47 := Tryz.func121.trans (congrArg some (by kernel_rfl))
  f48 := Tryz.func122.trans (congrArg some (by kernel_rfl))
  f49 := ⟨Tryz.f123.name, by decide, Tryz.func123.trans (congrArg some (by kernel_rfl))⟩
  f50 := ⟨Tryz.f124.name, by decide, Tryz.func124.trans (congrArg some (by kernel_rfl))⟩
  f57 := ⟨Tryz.f131.name, by decide, Tryz.func131.trans (congrArg some (by kernel_rfl))⟩
  t0 := Tryz.underlying0
  a0 := Tryz.isAgg0
  z0 := Tryz.sizeOf0
  v0 := Tryz.zeroValue0
  t3 := Tryz.underlying3
  a3 := Tryz.isAgg3
  z3 := Tryz.sizeOf3
  v3 := Tryz.zeroValue3
  t4 := Tryz.underlying4
  a4 := Tryz.isAgg4
  z4 := Tryz.sizeOf4
  v4 := Tryz.zeroValue4
  t5 := Tryz.underlying5
  a5 := Tryz.isAgg5
  z5 := Tryz.sizeOf5
  v5 := Tryz.zeroValue5
  t9 := Tryz.underlying9
  a9 := Tryz.isAgg9
  z9 := Tryz.sizeOf9
  v9 := Tryz.zeroValue9
  t22 := Tryz.underlying24
  a22 := Tryz.isAgg24
  z22 := Tryz.sizeOf24
  v22 := Tryz.zeroValue24
  a24 := Tryz.isAgg29
  z24 := Tryz.sizeOf29
  t25 := Tryz.underlying57
  a25 := Tryz.isAgg57
  z25 := Tryz.sizeOf57
  v25 := Tryz.zeroValue57
  t39 := Tryz.underlying81
  a39 := Tryz.isAgg81
  z39 := Tryz.sizeOf81
  v39 := Tryz.zeroValue81
  t45 := Tryz.underlying92
  a45 := Tryz.isAgg92
  z45 := Tryz.sizeOf92
  v45 := Tryz.zeroValue92
  t46 := Tryz.underlying93
  a46 := Tryz.isAgg93
  z46 := Tryz.sizeOf93
  v46 := Tryz.zeroValue93
  t50 := Tryz.underlying97
  a50 := Tryz.isAgg97
  z50 := Tryz.sizeOf97
  v50 := Tryz.zeroValue97
  t53 := Tryz.underlying100
  a53 := Tryz.isAgg100
  z53 := Tryz.sizeOf100
  v53 := Tryz.zeroValue100
  t55 := Tryz.underlying102
  a55 := Tryz.isAgg102
  z55 := Tryz.sizeOf102
  v55 := Tryz.zeroValue102
  t66 := Tryz.underlying114
  a66 := Tryz.isAgg114
  z66 := Tryz.sizeOf114
  v66 := Tryz.zeroValue114
  t70 := Tryz.underlying118
  a70 := Tryz.isAgg118
  z70 := Tryz.sizeOf118
  v70 := Tryz.zeroValue118
  t76 := Tryz.underlying122
  a76 := Tryz.isAgg122
  z76 := Tryz.sizeOf122
  v76 := Tryz.zeroValue122
  t77 := Tryz.underlying123
  a77 := Tryz.isAgg123
  z77 := Tryz.sizeOf123
  v77 := Tryz.zeroValue123 }
open Go.RowKit Go.Lib Go.Sort in
/-- **slices.SortFunc: WHAT THE ROW HOLDS, TO THE ELEMENT.** (LAID AT THE INSTANCE 'slices.SortFunc[[][]int,[]int]': no walk: one application.) -/
theorem Tryz.slices_SortFunc_eq {α : Type} [Inhabited α] (enc : α → Value) (h1 : OneCell enc) (cf : α → α → Int) (hO : SWO (ltOf cf)) (g : Nat) (cb : Array Value) (blk off cap : Nat) (d : Array α) (w : World) (eg : ∀ args w, (callFunc g args).run Tryz.prog w = .ok (.enter g args) w) (hcmp : CmpLays1 Tryz.prog g cb enc cf blk off d.size w) (hH : Holds enc w blk off d) (hblk : blk < w.heap.size) (hsz : d.size < 4611686018427387904) :
    Calls Tryz.prog 37 #[.slice (some ⟨blk, off, none⟩) d.size cap, .func (.func g) #[] cb] w fun e w' =>
      e = .returned (.tuple #[]) ∧ ∃ n os, w' = sortWorld enc w blk off n (pdq (ltOf cf) d 0 d.size (Lib.bitLen d.size) true true) os := Any.slices_SortFunc_eq Tryz.laysSlF6_f55 enc h1 cf hO g cb blk off cap d w eg hcmp hH hblk hsz
open Go.RowKit Go.Lib Go.Sort in
/-- **slices.SortFunc, IN THE DOCUMENTATION's OWN TERMS: A PERMUTATION OF WHAT THE ROW HELD, SORTED BY 'cmp(a, b) < 0'.** Which of two equals comes first is left open ("The sort is not guaranteed to be stable"). (LAID AT THE INSTANCE 'slices.SortFunc[[][]int,[]int]': no walk: one application.) -/
theorem Tryz.slices_SortFunc {α : Type} [Inhabited α] (enc : α → Value) (h1 : OneCell enc) (cf : α → α → Int) (hO : SWO (ltOf cf)) (g : Nat) (cb : Array Value) (blk off cap : Nat) (d : Array α) (w : World) (eg : ∀ args w, (callFunc g args).run Tryz.prog w = .ok (.enter g args) w) (hcmp : CmpLays1 Tryz.prog g cb enc cf blk off d.size w) (hH : Holds enc w blk off d) (hblk : blk < w.heap.size) (hsz : d.size < 4611686018427387904) :
    Calls Tryz.prog 37 #[.slice (some ⟨blk, off, none⟩) d.size cap, .func (.func g) #[] cb] w fun e w' =>
      e = .returned (.tuple #[]) ∧ ∃ d' n os, PermIn 0 d.size d d' ∧ SortedIn (ltOf cf) 0 d.size d' ∧ w' = sortWorld enc w blk off n d' os := Any.slices_SortFunc Tryz.laysSlF6_f55 enc h1 cf hO g cb blk off cap d w eg hcmp hH hblk hsz
end Go.Proofs

/- slices.Sort at []int: the shelf's contract in this proof's words. -/
namespace Go.Proofs.YteplokddaebbeaaGreat
open Go Go.RowKit
set_option maxRecDepth 100000

def sortI (L : List Int) : List Int := L.mergeSort fun x y => decide (x ≤ y)
theorem sortI_length (L : List Int) : (sortI L).length = L.length := List.length_mergeSort L
theorem sortI_perm (L : List Int) : (sortI L).Perm L := List.mergeSort_perm L _
theorem sortI_sorted (L : List Int) : (sortI L).Pairwise (· ≤ ·) := by
  have := List.pairwise_mergeSort (le := fun x y : Int => decide (x ≤ y)) (fun a b c h1 h2 => by simp at h1 h2 ⊢; omega) (fun a b => by simp; omega) L
  exact this.imp fun h => by simpa using h
theorem c_Sort {w : World} {B : Nat} {s : Sl} {L : List Int} (h : OwnI w B s L) (hL : L.length < 2^40) {K : World → Prop} (hk : ∀ w', OwnI w' B s (sortI L) → w.grownBy w' s.blk → K w') :
    call0 PP F.slices_Sort___int_int_ #[s.v] w K := by
  have hn : s.n = L.length := by have := h.n; simpa using this
  have hnc := h.nc
  have hcm := h.cm
  rcases h.at_ with hc | ⟨g, cur, ha, hBg, hg, hsz, ht⟩
  · have h0 : L.length = 0 := by omega
    obtain rfl : L = [] := List.eq_nil_of_length_eq_zero h0
    have e : s.v = .slice s.a 0 s.c := by rw [Sl.v, hn]; rfl
    rw [e]
    refine (Tryz.slices_Sort_int_none s.a s.c w).mono ?_
    rintro e w' ⟨rfl, rfl⟩
    exact ⟨rfl, hk _ (by simpa [sortI] using h) ⟨rfl, rfl, rfl, Nat.le_refl _, fun _ _ _ => rfl⟩⟩
  · have hglt : g < w.heap.size := (Array.getElem?_eq_some_iff.1 hg).1
    have e : s.v = .slice (some ⟨g, 0, none⟩) L.length s.c := by rw [Sl.v, hn, ha]
    rw [e]
    rw [hn] at ht
    refine (Tryz.slices_Sort_int g 0 s.c L w (holds_of_blockI hg ht) hglt (by omega)).mono ?_
    rintro e w' ⟨rfl, n, os, rfl⟩
    have hl : (sortI L).length = L.length := sortI_length L
    refine ⟨rfl, hk _ ⟨by rw [List.length_map, hl, hn], hnc, hcm, .inr ⟨g, _, ha, hBg, heap_sortedI _ hg, by simp [Go.Sort.putCells, hsz], ?_⟩⟩ ?_⟩
    · rw [hn, ← hl]
      exact take_putCellsI cur (sortI L) (by omega)
    · by_cases hc0 : s.c = 0
      · have : L.length = 0 := by omega
        obtain rfl : L = [] := List.eq_nil_of_length_eq_zero this
        have hb : s.blk = none := by rw [Sl.blk, if_pos hc0]
        rw [hb]
        refine ⟨rfl, rfl, rfl, by simp, fun k hk _ => ?_⟩
        rw [Go.Sort.heap_grow_old _ _ (by simpa using hk)]
        by_cases e : k = g
        · subst e
          have := heap_sortedI (n := n) (os := os) (#[] : Array Int) hg
          rw [Go.Sort.heap_grow_old _ _ (by simpa using hk)] at this
          have h5 : ([] : List Int).mergeSort (fun x y => decide (x ≤ y)) = [] := by simp
          rw [h5, this, hg]
          congr 1
          have : cur = #[] := Array.eq_empty_of_size_eq_zero (by omega)
          subst this
          rfl
        · have := (grownBy_sortedI (w := w) (g := g) (n := n) (os := os) (([] : List Int).mergeSort fun x y => decide (x ≤ y)).toArray).block k hk (fun e2 => e (by simpa using e2))
          rw [Go.Sort.heap_grow_old _ _ (by simpa using hk)] at this
          exact this
      · have hb : s.blk = some g := by rw [Sl.blk, if_neg hc0, ha]; rfl
        rw [hb]
        exact grownBy_sortedI _
end Go.Proofs.YteplokddaebbeaaGreat

/- The model text's insertion sort. -/
namespace Go.Proofs.YteplokddaebbeaaGreat
open Go Go.RowKit
set_option maxRecDepth 100000

def insAt (O : List Int) (x : Int) (k : Nat) : List Int := O.take k ++ [x] ++ O.drop k
theorem insAt_perm (O : List Int) (x : Int) (k : Nat) : (insAt O x k).Perm (O ++ [x]) := by
  unfold insAt
  have h1 : (O.take k ++ [x] ++ O.drop k).Perm (O.take k ++ (O.drop k ++ [x])) := by
    rw [List.append_assoc]
    exact List.Perm.append_left _ List.perm_append_comm
  rw [← List.append_assoc, List.take_append_drop] at h1
  exact h1
theorem insAt_sorted {O : List Int} {x : Int} {k : Nat} (hk : k ≤ O.length) (hs : O.Pairwise (· ≤ ·)) (h1 : ∀ j, k ≤ j → j < O.length → x < O.getD j 0) (h2 : k = 0 ∨ O.getD (k - 1) 0 ≤ x) : (insAt O x k).Pairwise (· ≤ ·) := by
  have hg : ∀ i j, i ≤ j → j < O.length → O.getD i 0 ≤ O.getD j 0 := fun i j hij hj => by
    by_cases e : i = j
    · subst e; omega
    · have := List.pairwise_iff_getElem.1 hs i j (by omega) hj (by omega)
      rwa [getD_lt (by omega), getD_lt hj]
  have ht : ∀ a ∈ O.take k, a ≤ x := fun a ha => by
    obtain ⟨i, hi, rfl⟩ := List.getElem_of_mem ha
    rw [List.length_take] at hi
    rw [List.getElem_take]
    rcases h2 with h2 | h2
    · omega
    · have := hg i (k - 1) (by omega) (by omega)
      rw [getD_lt (by omega)] at this
      omega
  have hd : ∀ b ∈ O.drop k, x ≤ b := fun b hb => by
    obtain ⟨i, hi, rfl⟩ := List.getElem_of_mem hb
    rw [List.length_drop] at hi
    rw [List.getElem_drop]
    have := h1 (k + i) (by omega) (by omega)
    rw [getD_lt (by omega)] at this
    omega
  have hs' : (O.take k ++ O.drop k).Pairwise (· ≤ ·) := by rw [List.take_append_drop]; exact hs
  rw [List.pairwise_append] at hs'
  unfold insAt
  rw [List.append_assoc, List.pairwise_append]
  refine ⟨hs'.1, ?_, fun a ha b hb => ?_⟩
  · rw [List.singleton_append, List.pairwise_cons]
    exact ⟨hd, hs'.2.1⟩
  · rcases List.mem_append.1 hb with hb | hb
    · have : b = x := by simpa using hb
      rw [this]; exact ht a ha
    · exact hs'.2.2 a ha b hb
theorem sortI_eq {L O : List Int} (hp : O.Perm L) (hs : O.Pairwise (· ≤ ·)) : O = sortI L :=
  List.Perm.eq_of_pairwise (fun a b _ _ h1 h2 => Int.le_antisymm h1 h2) hs (sortI_sorted L) (hp.trans (sortI_perm L).symm)
theorem c_l15Sort {w : World} {a : Sl} {L : List Int} (ha : RowI w a L) (hL : L.length < 2^38) :
    Calls PP F.spec_l15Sort #[a.v] w fun e w' => ∃ s : Sl, e = .returned s.v ∧ OwnI w' w.heap.size s (sortI L) ∧ Below w.heap.size w w' := by
  have han : a.n = L.length := by have := ha.n; simpa using this
  refine spec_l15Sort.calls a ?_
  rw [spec_l15Sort.E_s]
  refine lit0 oneInt (B := w.heap.size) (Nat.le_refl _) ?_
  intro o w1 ho hg1 _
  have hb1 := below_of_grow hg1
  refine spec_l15Sort.L3_rule _ _ _ _ _ (I := fun o k w' => 0 ≤ k ∧ k ≤ L.length ∧ Below w.heap.size w w' ∧ ∃ O : List Int, OwnI w' w.heap.size o O ∧ O.Perm (L.take k.toNat) ∧ O.Pairwise (· ≤ ·)) (μ := fun _ k _ => (L.length - k).toNat)
    ⟨by omega, by omega, hb1, [], by simpa [OwnI] using ho, by simp, List.Pairwise.nil⟩ ?_
  rintro o k w2 ⟨hk0, hk, hb2, O, ho, hp, hs⟩
  have hOl : O.length = k.toNat := by rw [hp.length_eq, List.length_take]; omega
  have hon : o.n = O.length := by have := ho.n; simpa using this
  rw [spec_l15Sort.B3_s, han]
  refine bif_dec (fun h3 => ?_) (fun h3 => ?_)
  · have hlt : k.toNat < L.length := by omega
    rw [hon]
    have fin : ∀ (at_ : Int) (w3 : World), 0 ≤ at_ → at_ ≤ O.length → Drew w2 w3 → (∀ j, at_.toNat ≤ j → j < O.length → L[k.toNat] < O.getD j 0) → (at_ = 0 ∨ O.getD (at_.toNat - 1) 0 ≤ L[k.toNat]) →
        ∀ Q, spec_l15Sort.q7 std (fun e2 w2' => ∃ out_3_n k_4_n, e2 = spec_l15Sort.emb3 a out_3_n k_4_n ∧ (0 ≤ k_4_n ∧ k_4_n ≤ L.length ∧ Below w.heap.size w w2' ∧ ∃ O : List Int, OwnI w2' w.heap.size out_3_n O ∧ O.Perm (L.take k_4_n.toNat) ∧ O.Pairwise (· ≤ ·)) ∧ (L.length - k_4_n).toNat < (L.length - k).toNat) Q (.exit 2) (spec_l15Sort.x2 a o k at_) w3 := by
      intro at_ w3 h0 h1 hd hgt hle Q
      rw [spec_l15Sort.A6_2_s]
      have hb3 := hb2.trans (hd.below _)
      have ho3 := ho.heap hd.heap'
      refine lit0 oneInt (B := w3.heap.size) (Nat.le_refl _) ?_
      intro r w4 hr hg4 _
      have hb34 := below_of_grow hg4
      have hb4 := hb3.trans (hb34.mono hb3.size)
      have ho4 := Own.grow ho3 hb34
      refine Row.cut ho4.row (by simpa using h0) (by simp <;> omega) (by simp <;> omega) fun s16 hs16 => ?_
      have e2 : (List.take ((none : Option Int).getD (o.n : Int)).toNat (O.map vI)).drop ((some at_).getD 0).toNat = (O.drop at_.toNat).map vI := by
        rw [hon]; simp [List.map_drop, List.take_of_length_le]
      rw [e2] at hs16
      refine append_row oneInt hr (by have := hb34.size; omega) hs16 (fun v hv => by obtain ⟨x, _, rfl⟩ := List.mem_map.1 hv; exact One.int x) (by simp; omega) ?_
      intro r2 w5 hr2 hg5 _ _
      rw [List.nil_append] at hr2
      have hb35 := hb34.grown hg5 hb34.size (fun g hg => (hr.lt g hg).1)
      have hb5 := hb3.trans (hb35.mono hb3.size)
      have ho5 := Own.grow ho3 hb35
      refine drew_intro fun w6 hd6 => ?_
      have hb36 := hb35.trans ((hd6.below _).mono hb35.size)
      have hb6 := hb3.trans (hb36.mono hb3.size)
      have ho6 := Own.heap ho5 hd6.heap'
      have hr6 := Own.heap hr2 hd6.heap'
      refine Own.pop ho6 h0 (by rw [List.length_map]; omega) fun s20 hs20 hblk => ?_
      refine RowI.get (ha.grow hb6) hk0 (by omega) ?_
      rw [getD_lt hlt]
      rw [← List.map_take] at hs20
      have hs20 : OwnI w6 w.heap.size s20 (O.take at_.toNat) := hs20
      refine append_int hs20 hb6.size (by rw [List.length_take]; omega) ?_
      intro o7 w7 ho7 hg7 hn7
      have hb67 : Below w.heap.size w w7 := hb6.grown hg7 hb6.size (fun g hg => (hs20.lt g hg).1)
      have hlt3 : ∀ g, o.blk = some g → g < w3.heap.size := fun g hg => (ho3.lt g hg).2
      have hr7 : Own w7 w3.heap.size T_int r2 ((O.drop at_.toNat).map vI) := Own.keeps hr6 (keeps_grown hg7) (fun g hg hg2 => by
        rw [hblk] at hg2; have := hlt3 g hg2; have := (hr6.lt g hg).1; omega)
      refine append_row oneInt ho7 hb67.size hr7.row (fun v hv => by obtain ⟨x, _, rfl⟩ := List.mem_map.1 hv; exact One.int x) (by simp; omega) ?_
      intro o8 w8 ho8 hg8 _ _
      rw [← List.map_append] at ho8
      have ek : (k + 1).toNat = k.toNat + 1 := by omega
      refine ⟨o8, k + 1, by rw [w64_succ hk0 (by omega)], ⟨by omega, by omega, hb67.grown hg8 hb67.size (fun g hg => (ho7.lt g hg).1), insAt O L[k.toNat] at_.toNat, ho8, ?_, ?_⟩, by omega⟩
      · rw [ek, List.take_succ_eq_append_getElem hlt]
        exact (insAt_perm O _ _).trans (List.Perm.append_right _ hp)
      · exact insAt_sorted (by omega) hs hgt (by rcases hle with h | h; · left; omega
                                                 · right; exact h)
    refine spec_l15Sort.L6_rule _ _ _ _ _ _ (I := fun at_ w3 => 0 ≤ at_ ∧ at_ ≤ O.length ∧ Drew w2 w3 ∧ ∀ j, at_.toNat ≤ j → j < O.length → L[k.toNat] < O.getD j 0) (μ := fun at_ _ => at_.toNat)
      ⟨by omega, by omega, ⟨0, rfl⟩, fun j hj1 hj2 => by omega⟩ ?_
    rintro at_ w3 ⟨h0, h1, hd, hgt⟩
    rw [spec_l15Sort.B6_s]
    have hb3 := hb2.trans (hd.below _)
    have ho3 := ho.heap hd.heap'
    refine bif_dec (fun h4 => ?_) (fun h4 => ?_)
    · refine RowI.get (ha.grow hb3) hk0 (by omega) ?_
      rw [getD_lt hlt]
      have e1 : w64 (at_ - 1) = at_ - 1 := w64_id (by omega) (by omega)
      rw [e1]
      refine RowI.get (Own.row ho3) (by omega) (by omega) ?_
      refine drew_intro fun w4 hd4 => ?_
      have en : (at_ - 1).toNat = at_.toNat - 1 := by omega
      rw [en]
      refine bif_dec (fun h5 => ?_) (fun h5 => ?_)
      · refine ⟨at_ - 1, rfl, ⟨by omega, by omega, hd.trans hd4, fun j hj1 hj2 => ?_⟩, by omega⟩
        by_cases e : j = at_.toNat - 1
        · subst e; exact h5
        · exact hgt j (by omega) hj2
      · exact fin at_ w4 h0 h1 (hd.trans hd4) hgt (.inr (by omega)) _
    · refine drew_intro fun w4 hd4 => ?_
      exact fin at_ w4 h0 h1 (hd.trans hd4) hgt (.inl (by omega)) _
  · rw [spec_l15Sort.A3_0_s]
    rw [show k.toNat = L.length by omega, List.take_length] at hp
    rw [sortI_eq hp hs] at ho
    exact ⟨o, rfl, ho, hb2⟩
end Go.Proofs.YteplokddaebbeaaGreat

/- What each function does, step by step, written by a program (Gen.lean); each equation is checked by the kernel. -/
namespace Go.Proofs.YteplokddaebbeaaGreat
open Go
set_option linter.unusedVariables false
set_option maxRecDepth 100000
end Go.Proofs.YteplokddaebbeaaGreat

/- What each function does, step by step, written by a program (Gen.lean); each equation is checked by the kernel. -/
namespace Go.Proofs.YteplokddaebbeaaGreat
open Go
set_option linter.unusedVariables false
set_option maxRecDepth 100000
end Go.Proofs.YteplokddaebbeaaGreat

/- The laws' helpers over rows of rows: comparison, marks. -/
namespace Go.Proofs.YteplokddaebbeaaGreat
open Go Go.RowKit
set_option maxRecDepth 100000

def marksSS (k : Int) : List (List Int) → List (List Int)
  | [] => []
  | L :: r => marks k L.length :: marksSS (k + L.length) r
theorem marksSS_length : ∀ (LL : List (List Int)) (k : Int), (marksSS k LL).length = LL.length
  | [], _ => rfl
  | L :: r, k => by simp [marksSS, marksSS_length r]
theorem marksSS_append : ∀ (A B : List (List Int)) (k : Int), marksSS k (A ++ B) = marksSS k A ++ marksSS (k + tot A) B
  | [], B, k => by simp [marksSS, tot_nil]
  | L :: r, B, k => by
    simp only [List.cons_append, marksSS, marksSS_append r B, tot_cons, List.cons.injEq, true_and]
    congr 2; omega
theorem marksSS_step {LL : List (List Int)} (k : Int) {i : Nat} (h : i < LL.length) :
    (marksSS k (LL.take i) ++ LL.drop i).set i (marks (k + tot (LL.take i)) (LL.getD i []).length) = marksSS k (LL.take (i + 1)) ++ LL.drop (i + 1) := by
  have h1 : LL.drop i = LL[i] :: LL.drop (i + 1) := by rw [List.drop_eq_getElem_cons h]
  have h2 : (marksSS k (LL.take i)).length = i := by rw [marksSS_length]; simp; omega
  rw [h1, List.set_append_right _ _ (by omega), h2, Nat.sub_self, List.set_cons_zero, List.take_succ_eq_append_getElem h, marksSS_append, List.append_assoc, getD_SS h]
  rfl
theorem marksSS_at {LL : List (List Int)} (k : Int) {i : Nat} (h : i < LL.length) : (marksSS k (LL.take i) ++ LL.drop i).getD i [] = LL.getD i [] := by
  have h2 : (marksSS k (LL.take i)).length = i := by rw [marksSS_length]; simp; omega
  rw [List.getD_eq_getElem?_getD, List.getElem?_append_right (by omega), h2, Nat.sub_self, List.getElem?_drop, List.getD_eq_getElem?_getD]
  simp
theorem marksSS_getD : ∀ {LL : List (List Int)} (k : Int) {i : Nat}, i < LL.length → (marksSS k LL).getD i [] = marks (k + tot (LL.take i)) (LL.getD i []).length
  | [], k, i, h => by simp at h
  | L :: r, k, 0, _ => by simp [marksSS, tot_nil]
  | L :: r, k, i + 1, h => by
    have := marksSS_getD (LL := r) (k + L.length) (i := i) (by simpa using h)
    simp only [List.getD_eq_getElem?_getD, marksSS, List.getElem?_cons_succ, List.take_succ_cons, tot_cons] at this ⊢
    rw [this]; congr 1; omega

end Go.Proofs.YteplokddaebbeaaGreat

/- The laws' helpers over rows of rows: sizes and copies. -/
namespace Go.Proofs.YteplokddaebbeaaGreat
open Go Go.RowKit
set_option maxRecDepth 100000

def szI (n : Nat) (left : Int) : Int := if left - n < 0 then -1 else left - n
def szW (LL : List (List Int)) (left : Int) : Int := if (LL.length : Int) + tot LL ≤ left then left - ((LL.length : Int) + tot LL) else -1
theorem szW_ok {LL : List (List Int)} {left : Int} (h0 : 0 ≤ left) (h : ¬ szW LL left < 0) : (LL.length : Int) + tot LL ≤ left ∧ szW LL left = left - ((LL.length : Int) + tot LL) := by
  unfold szW at h ⊢
  split at h
  · rename_i h1; exact ⟨h1, by rw [if_pos h1]⟩
  · omega
theorem OwnRows.replicate {w B s n} (h : Own w B T_Sint s (List.replicate n Sl.nil.v)) : OwnRows w B s (List.replicate n Sl.nil) (List.replicate n []) := by
  refine ⟨by simpa using h, by simp, fun i r L e1 e2 => ?_, fun i j r t _ e1 e2 g hg => ?_⟩
  · rw [List.getElem?_replicate] at e1 e2
    split at e1
    · split at e2
      · simp only [Option.some.injEq] at e1 e2; subst e1 e2; exact Own.nil _ _ _
      · omega
    · cases e1
  · rw [List.getElem?_replicate] at e1
    split at e1
    · simp only [Option.some.injEq] at e1; subst e1; simp [Sl.blk, Sl.nil] at hg
    · cases e1
end Go.Proofs.YteplokddaebbeaaGreat

/- ChildLabels, LabelsAt: both texts, and the laws. -/
namespace Go.Proofs.YteplokddaebbeaaGreat
open Go Go.RowKit
set_option maxRecDepth 100000

def siteN (LL : List (List Int)) (p : List Int) : Int := ((sitesV LL p).length : Int)
def labsV (LL : List (List Int)) (PS : List (List Int)) : List Int := sortI (PS.map (siteN LL))
theorem c_sixL {n : Int} {K : Bool → Prop} (hk : K (decide (0 ≤ n) && decide (n ≤ 6))) : pcall1 .bool PP F.impl_isSix #[vI n] K := Pure.pcall1 (s := .bool) (c_isSix' n) hk
theorem c_labels {w : World} {l ps : Sl} {LL PS : List (List Int)} (hl : RowSS w l LL) (hB : BasisOk LL) (hps : RowSS w ps PS) (hlen : ∀ p ∈ PS, p.length ≤ 7) (hc : PS.length ≤ 46656) :
    Calls PP F.impl_labels #[l.v, ps.v] w fun e w' => ∃ s : Sl, e = .returned s.v ∧ OwnI w' w.heap.size s (labsV LL PS) ∧ Below w.heap.size w w' := by
  have hpn := hps.n
  refine impl_labels.calls l ps ?_
  rw [impl_labels.E_s]
  refine lit0 oneInt (B := w.heap.size) (Nat.le_refl _) ?_
  intro o w1 ho hg1 _
  have hb1 := below_of_grow hg1
  rw [hpn]
  refine impl_labels.L3_rule _ _ _ _ _ _ _ (I := fun o i w' => 0 ≤ i ∧ i ≤ PS.length ∧ Below w.heap.size w w' ∧ OwnI w' w.heap.size o ((PS.take i.toNat).map (siteN LL))) (μ := fun _ i _ => (PS.length - i).toNat)
    ⟨by omega, by omega, hb1, by simpa [OwnI] using ho⟩ ?_
  rintro o i w' ⟨hi0, hi, hb, ho⟩
  rw [impl_labels.B3_s]
  refine bif_dec (fun h3 => ?_) (fun h3 => ?_)
  · have hlt : i.toNat < PS.length := by omega
    refine RowSS.get (hps.grow hb) hi0 (by omega) fun r hr => ?_
    rw [getD_SS hlt] at hr
    refine (c_active (hl.grow hb) hB hr (hlen _ (List.getElem_mem hlt))).mono ?_
    rintro e w3 ⟨u, rfl, hu, hb3⟩
    refine ⟨u, rfl, ?_⟩
    have hun : (u.n : Int) = siteN LL PS[i.toNat] := by have := hu.n; rw [List.length_map] at this; rw [siteN, this]
    simp only [hun]
    have hb13 := hb.trans (hb3.mono hb.size)
    have ho3 := Own.grow ho hb3
    refine append_int ho3 hb13.size (by rw [List.length_map, List.length_take]; omega) ?_
    intro o' w4 ho4 hg4 _
    refine ⟨o', i + 1, by rw [w64_succ hi0 (by omega)], ⟨by omega, by omega, hb13.grown hg4 hb13.size (fun g hg => (ho3.lt g hg).1), ?_⟩, by omega⟩
    rw [show (i + 1).toNat = i.toNat + 1 by omega, List.take_succ_eq_append_getElem hlt, List.map_append]
    exact ho4
  · rw [impl_labels.A3_0_s]
    rw [show i.toNat = PS.length by omega, List.take_length] at ho
    refine c_Sort ho (by rw [List.length_map]; omega) fun w3 ho3 hg3 => ?_
    exact ⟨o, rfl, ho3, hb.grown hg3 hb.size (fun g hg => (ho.lt g hg).1)⟩
/-! ### ChildLabels -/
open Classical in
noncomputable def ChildLabelsV (LL : List (List Int)) (P : List Int) : List Int := if InCl LL P ∧ P.length ≤ 6 then labsV LL (childrenV LL P) else []
theorem labsV_length (LL PS : List (List Int)) : (labsV LL PS).length = PS.length := by rw [labsV, sortI_length, List.length_map]
theorem ChildLabelsV_len (LL : List (List Int)) (P : List Int) : (ChildLabelsV LL P).length < 2^38 := by
  unfold ChildLabelsV
  split
  · rename_i h
    have := childrenV_len LL P
    rw [labsV_length]; omega
  · simp
theorem c_implChildLabels {w : World} {l p : Sl} {LL : List (List Int)} {P : List Int} (hl : RowSS w l LL) (hL : LL.length < 2^38) (ht : tot LL < 2^37) (hp : RowI w p P) (hP : P.length < 2^37) :
    Calls PP F.impl_ChildLabels #[l.v, p.v] w fun e w' => ∃ s : Sl, e = .returned s.v ∧ OwnI w' w.heap.size s (ChildLabelsV LL P) ∧ Below w.heap.size w w' := by
  have hpn : p.n = P.length := by have := hp.n; simpa using this
  refine impl_ChildLabels.calls l p ?_
  rw [impl_ChildLabels.E_s, hpn]
  refine bif_dec (fun h => ?_) (fun h6 => ?_)
  · exact ⟨Sl.nil, rfl, by rw [ChildLabelsV, if_neg (fun hh => by have := hh.2; omega)]; exact Own.nil _ _ _, Below.refl _ _⟩
  refine (c_hasSites hl hL ht hp hP).mono ?_
  rintro e w1 ⟨rfl, hb1⟩
  refine ⟨_, rfl, ?_⟩
  refine bif_intro (fun h => ?_) (fun h => ?_)
  · have h : ¬ (InCl LL P ∧ P.length < 8) := by simpa using h
    exact ⟨Sl.nil, rfl, by rw [ChildLabelsV, if_neg (fun hh => h ⟨hh.1, by omega⟩)]; exact Own.nil _ _ _, hb1⟩
  have h : InCl LL P ∧ P.length < 8 := by simpa using h
  refine (c_children (hl.grow hb1) h.1.1 (hp.grow hb1) (by omega)).mono ?_
  rintro e w2 ⟨t, rfl, hto, hb12⟩
  refine ⟨t, rfl, ?_⟩
  have hb2 := hb1.trans (hb12.mono hb1.size)
  have hcl := childrenV_len LL P
  refine (c_labels (hl.grow hb2) h.1.1 hto.row (fun q hq => by obtain ⟨i, hi, rfl, _⟩ := childrenV_mem hq; rw [childW_length hi]; omega) (by omega)).mono ?_
  rintro e w3 ⟨s, rfl, hs, hb3⟩
  exact ⟨s, rfl, s, rfl, by rw [ChildLabelsV, if_pos ⟨h.1, by omega⟩]; exact hs.mono hb2.size, hb2.trans (hb3.mono hb2.size)⟩
theorem c_specChildLabels {w : World} {l p : Sl} {LL : List (List Int)} {P : List Int} (hl : RowSS w l LL) (hL : LL.length < 2^38) (ht : tot LL < 2^37) (hp : RowI w p P) (hP : P.length < 2^37) :
    Calls PP F.spec_ChildLabels #[l.v, p.v] w fun e w' => ∃ s : Sl, e = .returned s.v ∧ RowI w' s (ChildLabelsV LL P) ∧ Below w.heap.size w w' := by
  have hpn : p.n = P.length := by have := hp.n; simpa using this
  refine spec_ChildLabels.calls l p ?_
  rw [spec_ChildLabels.E_s, hpn]
  refine lit0 oneInt (B := w.heap.size) (Nat.le_refl _) ?_
  intro o w1 ho hg1 hoc
  have hb1 := below_of_grow hg1
  refine bif_dec (fun h => ?_) (fun h6 => ?_)
  · exact ⟨o, rfl, by rw [ChildLabelsV, if_neg (fun hh => by have := hh.2; omega)]; exact ho.row, hb1⟩
  refine (c_specChildrenOf0 (hl.grow hb1) hL ht (hp.grow hb1) hP).mono ?_
  rintro e w2 ⟨t, rfl, hto, hb12⟩
  refine ⟨t, rfl, ?_⟩
  have hb2 := hb1.trans (hb12.mono hb1.size)
  have ho2 : OwnI w2 w2.heap.size o [] := ⟨ho.n, ho.nc, ho.cm, .inl hoc⟩
  have htn := hto.row.n
  have htr := hto.row
  have hmem : ∀ q ∈ ChildrenOfV LL P, BasisOk LL ∧ q.length ≤ 7 := fun q hq => by
    unfold ChildrenOfV at hq
    split at hq
    · rename_i h
      obtain ⟨i, hi, rfl, _⟩ := childrenV_mem hq
      exact ⟨h.1.1, by rw [childW_length hi]; omega⟩
    · simp at hq
  have hlen : (ChildrenOfV LL P).length ≤ 9 := by
    unfold ChildrenOfV
    split
    · have := childrenV_len LL P; omega
    · simp
  have hV : ChildLabelsV LL P = labsV LL (ChildrenOfV LL P) := by
    unfold ChildLabelsV ChildrenOfV
    by_cases h : InCl LL P
    · rw [if_pos ⟨h, by omega⟩, if_pos ⟨h, by omega⟩]
    · rw [if_neg (fun hh => h hh.1), if_neg (fun hh => h hh.1)]; simp [labsV, sortI]
  rw [hV]
  refine spec_ChildLabels.L6_rule _ _ _ _ _ _ (I := fun o i w' => 0 ≤ i ∧ i ≤ (ChildrenOfV LL P).length ∧ Below w2.heap.size w2 w' ∧ OwnI w' w2.heap.size o (((ChildrenOfV LL P).take i.toNat).map (siteN LL))) (μ := fun _ i _ => ((ChildrenOfV LL P).length - i).toNat)
    ⟨by omega, by omega, Below.refl _ _, by simpa [OwnI] using ho2⟩ ?_
  rintro o i w' ⟨hi0, hi, hb, ho⟩
  rw [spec_ChildLabels.B6_s, htn]
  have hbw := hb2.trans (hb.mono hb2.size)
  refine bif_dec (fun h3 => ?_) (fun h3 => ?_)
  · have hlt : i.toNat < (ChildrenOfV LL P).length := by omega
    refine RowSS.get (htr.grow hb) hi0 (by omega) fun r hr => ?_
    rw [getD_SS hlt] at hr
    obtain ⟨hB, hq7⟩ := hmem _ (List.getElem_mem hlt)
    refine (c_l14Sites (hl.grow hbw) hB hr hq7).mono ?_
    rintro e w3 ⟨u, rfl, hu, hb3⟩
    refine ⟨u, rfl, ?_⟩
    have hun : (u.n : Int) = siteN LL (ChildrenOfV LL P)[i.toNat] := by have := hu.n; rw [List.length_map] at this; rw [siteN, this]
    simp only [hun]
    have hb13 := hb.trans (hb3.mono hb.size)
    have ho3 := Own.grow ho hb3
    refine append_int ho3 hb13.size (by rw [List.length_map, List.length_take]; omega) ?_
    intro o' w4 ho4 hg4 _
    refine ⟨o', i + 1, by rw [w64_succ hi0 (by omega)], ⟨by omega, by omega, hb13.grown hg4 hb13.size (fun g hg => (ho3.lt g hg).1), ?_⟩, by omega⟩
    rw [show (i + 1).toNat = i.toNat + 1 by omega, List.take_succ_eq_append_getElem hlt, List.map_append]
    exact ho4
  · rw [spec_ChildLabels.A6_0_s]
    rw [show i.toNat = (ChildrenOfV LL P).length by omega, List.take_length] at ho
    refine (c_l15Sort ho.row (by rw [List.length_map]; omega)).mono ?_
    rintro e w3 ⟨s, rfl, hs, hb3⟩
    exact ⟨s, rfl, s, rfl, hs.row, hbw.trans (hb3.mono hbw.size)⟩
/-! ### LabelsAt -/
open Classical in
noncomputable def LabelsAtV (LL : List (List Int)) (n : Int) : List Int := if BasisOk LL ∧ 0 ≤ n ∧ n ≤ 6 then labsV LL (classV LL n.toNat) else []
theorem LabelsAtV_len (LL : List (List Int)) (n : Int) : (LabelsAtV LL n).length < 2^38 := by
  unfold LabelsAtV
  split
  · rename_i h
    have := classV_len (LL := LL) (n := n.toNat) (by omega)
    rw [labsV_length]; omega
  · simp
theorem c_implLabelsAt {w : World} {l : Sl} {LL : List (List Int)} (hl : RowSS w l LL) (hL : LL.length < 2^38) (ht : tot LL < 2^37) (n : Int) :
    Calls PP F.impl_LabelsAt #[l.v, vI n] w fun e w' => ∃ s : Sl, e = .returned s.v ∧ OwnI w' w.heap.size s (LabelsAtV LL n) ∧ Below w.heap.size w w' := by
  refine impl_LabelsAt.calls l n ?_
  rw [impl_LabelsAt.E_s]
  refine (c_implIsBasis hl hL ht).mono ?_
  rintro e w1 ⟨rfl, hb1⟩
  refine ⟨_, rfl, ?_⟩
  refine bif_intro (fun h => ?_) (fun h => ?_)
  · have h : ¬ BasisOk LL := by simpa [IsBasisV] using h
    exact ⟨Sl.nil, rfl, by rw [LabelsAtV, if_neg (fun hh => h hh.1)]; exact Own.nil _ _ _, hb1⟩
  have hB : BasisOk LL := by simpa [IsBasisV] using h
  refine c_sixL ?_
  refine bif_intro (fun h => ?_) (fun h => ?_)
  · have h : ¬ (0 ≤ n ∧ n ≤ 6) := by simp at h; omega
    exact ⟨Sl.nil, rfl, by rw [LabelsAtV, if_neg (fun hh => h hh.2)]; exact Own.nil _ _ _, hb1⟩
  have hn : 0 ≤ n ∧ n ≤ 6 := by simpa using h
  have hV : LabelsAtV LL n = labsV LL (classV LL n.toNat) := by rw [LabelsAtV, if_pos ⟨hB, hn⟩]
  rw [hV]
  obtain ⟨n, rfl⟩ : ∃ m : Nat, n = m := ⟨n.toNat, by omega⟩
  rw [Int.toNat_natCast]
  refine (c_class (hl.grow hb1) hB n (by omega)).mono ?_
  rintro e w2 ⟨t, rfl, hto, hb12⟩
  refine ⟨t, rfl, ?_⟩
  have hb2 := hb1.trans (hb12.mono hb1.size)
  refine (c_labels (hl.grow hb2) hB hto.row (fun q hq => by have := permsV_len (classV_mem hq).1; omega) (classV_len (by omega))).mono ?_
  rintro e w3 ⟨s, rfl, hs, hb3⟩
  exact ⟨s, rfl, s, rfl, hs.mono hb2.size, hb2.trans (hb3.mono hb2.size)⟩
theorem c_specLabelsAt {w : World} {l : Sl} {LL : List (List Int)} (hl : RowSS w l LL) (hL : LL.length < 2^38) (ht : tot LL < 2^37) (n : Int) :
    Calls PP F.spec_LabelsAt #[l.v, vI n] w fun e w' => ∃ s : Sl, e = .returned s.v ∧ RowI w' s (LabelsAtV LL n) ∧ Below w.heap.size w w' := by
  refine spec_LabelsAt.calls l n ?_
  rw [spec_LabelsAt.E_s]
  refine lit0 oneInt (B := w.heap.size) (Nat.le_refl _) ?_
  intro o w1 ho hg1 hoc
  have hb1 := below_of_grow hg1
  refine (c_ClassOf (hl.grow hb1) hL ht n).mono ?_
  rintro e w2 ⟨t, rfl, hto, hb12⟩
  refine ⟨t, rfl, ?_⟩
  have hb2 := hb1.trans (hb12.mono hb1.size)
  have ho2 : OwnI w2 w2.heap.size o [] := ⟨ho.n, ho.nc, ho.cm, .inl hoc⟩
  have htn := hto.row.n
  have htr := hto.row
  have hmem : ∀ q ∈ ClassOfV LL n, BasisOk LL ∧ q.length ≤ 7 := fun q hq => by
    unfold ClassOfV at hq
    split at hq
    · rename_i h
      have := permsV_len (classV_mem hq).1
      exact ⟨h.1, by omega⟩
    · simp at hq
  have hlen : (ClassOfV LL n).length ≤ 46656 := by
    unfold ClassOfV
    split
    · rename_i h; exact classV_len (by omega)
    · simp
  have hV : LabelsAtV LL n = labsV LL (ClassOfV LL n) := by
    unfold LabelsAtV ClassOfV
    split
    · rfl
    · simp [labsV, sortI]
  rw [hV]
  refine spec_LabelsAt.L4_rule _ _ _ _ _ _ (I := fun o i w' => 0 ≤ i ∧ i ≤ (ClassOfV LL n).length ∧ Below w2.heap.size w2 w' ∧ OwnI w' w2.heap.size o (((ClassOfV LL n).take i.toNat).map (siteN LL))) (μ := fun _ i _ => ((ClassOfV LL n).length - i).toNat)
    ⟨by omega, by omega, Below.refl _ _, by simpa [OwnI] using ho2⟩ ?_
  rintro o i w' ⟨hi0, hi, hb, ho⟩
  rw [spec_LabelsAt.B4_s, htn]
  have hbw := hb2.trans (hb.mono hb2.size)
  refine bif_dec (fun h3 => ?_) (fun h3 => ?_)
  · have hlt : i.toNat < (ClassOfV LL n).length := by omega
    refine RowSS.get (htr.grow hb) hi0 (by omega) fun r hr => ?_
    rw [getD_SS hlt] at hr
    obtain ⟨hB, hq7⟩ := hmem _ (List.getElem_mem hlt)
    refine (c_l14Sites (hl.grow hbw) hB hr hq7).mono ?_
    rintro e w3 ⟨u, rfl, hu, hb3⟩
    refine ⟨u, rfl, ?_⟩
    have hun : (u.n : Int) = siteN LL (ClassOfV LL n)[i.toNat] := by have := hu.n; rw [List.length_map] at this; rw [siteN, this]
    simp only [hun]
    have hb13 := hb.trans (hb3.mono hb.size)
    have ho3 := Own.grow ho hb3
    refine append_int ho3 hb13.size (by rw [List.length_map, List.length_take]; omega) ?_
    intro o' w4 ho4 hg4 _
    refine ⟨o', i + 1, by rw [w64_succ hi0 (by omega)], ⟨by omega, by omega, hb13.grown hg4 hb13.size (fun g hg => (ho3.lt g hg).1), ?_⟩, by omega⟩
    rw [show (i + 1).toNat = i.toNat + 1 by omega, List.take_succ_eq_append_getElem hlt, List.map_append]
    exact ho4
  · rw [spec_LabelsAt.A4_0_s]
    rw [show i.toNat = (ClassOfV LL n).length by omega, List.take_length] at ho
    refine (c_l15Sort ho.row (by rw [List.length_map]; omega)).mono ?_
    rintro e w3 ⟨s, rfl, hs, hb3⟩
    exact ⟨s, rfl, s, rfl, hs.row, hbw.trans (hb3.mono hbw.size)⟩
end Go.Proofs.YteplokddaebbeaaGreat

/- Rules told by labels: plain facts. -/
namespace Go.Proofs.YteplokddaebbeaaGreat
open Go Go.RowKit
set_option maxRecDepth 100000

def hd (x : List Int) : Int := x.getD 0 0
def Str (R : List (List Int)) : Prop := R.Pairwise fun a b => hd a < hd b
theorem str_unique {A B : List (List Int)} (hA : Str A) (hB : Str B) (h : ∀ z, z ∈ A ↔ z ∈ B) : A = B := by
  have nA : A.Nodup := hA.imp fun h e => by rw [e] at h; exact Int.lt_irrefl _ h
  have nB : B.Nodup := hB.imp fun h e => by rw [e] at h; exact Int.lt_irrefl _ h
  exact List.Perm.eq_of_pairwise (le := fun a b => hd a < hd b) (fun a b _ _ h1 h2 => absurd (Int.lt_trans h1 h2) (Int.lt_irrefl _)) hA hB ((List.perm_ext_iff_of_nodup nA nB).2 h)
theorem str_one {R : List (List Int)} (h : Str R) {x y : List Int} (hx : x ∈ R) (hy : y ∈ R) (he : hd x = hd y) : x = y := by
  induction R with
  | nil => cases hx
  | cons a R ih =>
    have h1 := List.pairwise_cons.1 h
    rcases List.mem_cons.1 hx with rfl | hx
    · rcases List.mem_cons.1 hy with rfl | hy
      · rfl
      · have := h1.1 y hy; omega
    · rcases List.mem_cons.1 hy with e | hy
      · have := h1.1 x hx; rw [e] at he; omega
      · exact ih h1.2 hx hy
theorem str_idx {R : List (List Int)} (h : Str R) {i j : Nat} (hij : i < j) (hj : j < R.length) : hd (R.getD i []) < hd (R.getD j []) := by
  have := List.pairwise_iff_getElem.1 h i j (by omega) hj hij
  rw [getD_SS (by omega), getD_SS hj]; exact this
def insR (R : List (List Int)) (X : List Int) (k : Nat) : List (List Int) := R.take k ++ [X] ++ R.drop k
theorem insR_mem {R : List (List Int)} {X Z : List Int} {k : Nat} : Z ∈ insR R X k ↔ Z ∈ R ∨ Z = X := by
  have : R = R.take k ++ R.drop k := (List.take_append_drop k R).symm
  unfold insR
  constructor
  · intro h
    simp only [List.mem_append, List.mem_singleton] at h
    rcases h with (h | h) | h
    · exact .inl (List.mem_of_mem_take h)
    · exact .inr h
    · exact .inl (List.mem_of_mem_drop h)
  · rintro (h | rfl)
    · rw [this] at h
      rcases List.mem_append.1 h with h | h
      · simp [h]
      · simp [h]
    · simp
theorem insR_str {R : List (List Int)} {X : List Int} {k : Nat} (h : Str R) (hk : k ≤ R.length) (h1 : ∀ j, k ≤ j → j < R.length → hd X < hd (R.getD j [])) (h2 : k = 0 ∨ hd (R.getD (k - 1) []) < hd X) : Str (insR R X k) := by
  have hlo : ∀ a ∈ R.take k, hd a < hd X := fun a ha => by
    obtain ⟨i, hi, rfl⟩ := List.getElem_of_mem ha
    rw [List.length_take] at hi
    rw [List.getElem_take]
    have e : R[i]'(by omega) = R.getD i [] := (getD_SS (by omega)).symm
    rw [e]
    rcases h2 with h2 | h2
    · omega
    · by_cases hk1 : i = k - 1
      · rw [hk1]; exact h2
      · exact Int.lt_trans (str_idx h (by omega) (by omega)) h2
  have hhi : ∀ b ∈ R.drop k, hd X < hd b := fun b hb => by
    obtain ⟨i, hi, rfl⟩ := List.getElem_of_mem hb
    rw [List.length_drop] at hi
    rw [List.getElem_drop]
    have e : R[k + i]'(by omega) = R.getD (k + i) [] := (getD_SS (by omega)).symm
    rw [e]
    exact h1 (k + i) (by omega) (by omega)
  unfold insR Str
  rw [List.append_assoc, List.pairwise_append]
  refine ⟨List.Pairwise.sublist (List.take_sublist _ _) h, ?_, fun a ha b hb => ?_⟩
  · rw [List.singleton_append, List.pairwise_cons]
    exact ⟨hhi, List.Pairwise.sublist (List.drop_sublist _ _) h⟩
  · rw [List.singleton_append, List.mem_cons] at hb
    rcases hb with rfl | hb
    · exact hlo a ha
    · exact Int.lt_trans (hlo a ha) (hhi b hb)
/-! ### The lists' order -/
theorem lexC_self : ∀ a, lexC a a = 0
  | [] => rfl
  | x :: a => by rw [lexC, if_neg (by omega), if_neg (by omega), lexC_self a]
theorem lexC_swap : ∀ a b, lexC b a = - lexC a b
  | [], [] => rfl
  | [], _ :: _ => rfl
  | _ :: _, [] => rfl
  | x :: a, y :: b => by
    rw [lexC, lexC, lexC_swap a b]
    by_cases h1 : x < y
    · rw [if_neg (by omega), if_pos h1, if_pos h1]; rfl
    · by_cases h2 : y < x
      · rw [if_pos h2, if_neg h1, if_pos h2]
      · rw [if_neg h2, if_neg h1, if_neg h1, if_neg h2]
theorem lexC_zero : ∀ a b, lexC a b = 0 → a = b
  | [], [], _ => rfl
  | [], _ :: _, h => by simp [lexC] at h
  | _ :: _, [], h => by simp [lexC] at h
  | x :: a, y :: b, h => by
    rw [lexC] at h
    split at h
    · cases h
    · split at h
      · cases h
      · rw [lexC_zero a b h, show x = y by omega]
theorem lexC_trans : ∀ a b c, lexC a b < 0 → lexC b c < 0 → lexC a c < 0
  | [], [], _, h, _ => by simp [lexC] at h
  | [], _ :: _, [], _, h => by simp [lexC] at h
  | [], _ :: _, _ :: _, _, _ => by simp [lexC]
  | _ :: _, [], _, h, _ => by simp [lexC] at h
  | _ :: _, _ :: _, [], _, h => by simp [lexC] at h
  | x :: a, y :: b, z :: c, h1, h2 => by
    rw [lexC] at h1 h2 ⊢
    by_cases e1 : x < y
    · by_cases e2 : y < z
      · rw [if_pos (by omega)]; decide
      · by_cases e3 : z < y
        · rw [if_neg e2, if_pos e3] at h2; omega
        · rw [if_pos (by omega)]; decide
    · by_cases e2 : y < x
      · rw [if_neg e1, if_pos e2] at h1; omega
      · rw [if_neg e1, if_neg e2] at h1
        by_cases e3 : y < z
        · rw [if_pos (by omega)]; decide
        · by_cases e4 : z < y
          · rw [if_neg e3, if_pos e4] at h2; omega
          · rw [if_neg e3, if_neg e4] at h2
            rw [if_neg (by omega), if_neg (by omega)]
            exact lexC_trans a b c h1 h2
theorem lexC_hd {x y : Int} {a b : List Int} (h : x ≠ y) : lexC (x :: a) (y :: b) < 0 ↔ x < y := by
  rw [lexC]
  by_cases h1 : x < y
  · rw [if_pos h1]; simp [h1]
  · rw [if_neg h1, if_pos (by omega)]; simp [h1]
/-! ### What a rule is made of -/
def ent (LL : List (List Int)) (p : List Int) : List Int := siteN LL p :: labsV LL (childrenV LL p)
def ents (LL : List (List Int)) (n : Nat) : List (List Int) := (List.range n).flatMap fun m => (classV LL m).map (ent LL)
theorem ents_succ (LL : List (List Int)) (n : Nat) : ents LL (n + 1) = ents LL n ++ (classV LL n).map (ent LL) := by
  simp [ents, List.range_succ, List.flatMap_append]
theorem hd_ent (LL : List (List Int)) (p : List Int) : hd (ent LL p) = siteN LL p := rfl
def Told (E R : List (List Int)) : Prop := Str R ∧ ∀ Z, Z ∈ R ↔ Z ∈ E
theorem not_told {E : List (List Int)} {x y : List Int} (hx : x ∈ E) (hy : y ∈ E) (he : hd x = hd y) (hne : x ≠ y) : ¬ ∃ R, Told E R := fun ⟨R, h1, h2⟩ => hne (str_one h1 ((h2 x).2 hx) ((h2 y).2 hy) he)
open Classical in
noncomputable def RuleUpToV1 (LL : List (List Int)) (n : Int) : Bool := decide (BasisOk LL ∧ 0 ≤ n ∧ n ≤ 5 ∧ ∃ R, Told (ents LL (n.toNat + 1)) R)
open Classical in
noncomputable def RuleUpToV (LL : List (List Int)) (n : Int) : List (List Int) := if h : BasisOk LL ∧ 0 ≤ n ∧ n ≤ 5 ∧ ∃ R, Told (ents LL (n.toNat + 1)) R then Classical.choose h.2.2.2 else []
open Classical in
theorem told_V {LL R : List (List Int)} {n : Int} (h1 : BasisOk LL) (h2 : 0 ≤ n) (h3 : n ≤ 5) (h : Told (ents LL (n.toNat + 1)) R) : RuleUpToV1 LL n = true ∧ RuleUpToV LL n = R := by
  have hh : BasisOk LL ∧ 0 ≤ n ∧ n ≤ 5 ∧ ∃ R, Told (ents LL (n.toNat + 1)) R := ⟨h1, h2, h3, R, h⟩
  refine ⟨decide_eq_true hh, ?_⟩
  rw [RuleUpToV, dif_pos hh]
  have hc := Classical.choose_spec hh.2.2.2
  exact str_unique hc.1 h.1 fun z => (hc.2 z).trans (h.2 z).symm
open Classical in
theorem told_no {LL : List (List Int)} {n : Int} (h : ¬ (BasisOk LL ∧ 0 ≤ n ∧ n ≤ 5 ∧ ∃ R, Told (ents LL (n.toNat + 1)) R)) : RuleUpToV1 LL n = false ∧ RuleUpToV LL n = [] := ⟨decide_eq_false h, by rw [RuleUpToV, dif_neg h]⟩
theorem ents_mem {LL : List (List Int)} {n : Nat} {Z : List Int} (h : Z ∈ ents LL n) : ∃ m p, m < n ∧ p ∈ classV LL m ∧ Z = ent LL p := by
  rw [ents, List.mem_flatMap] at h
  obtain ⟨m, hm, hZ⟩ := h
  obtain ⟨p, hp, rfl⟩ := List.mem_map.1 hZ
  exact ⟨m, p, List.mem_range.1 hm, hp, rfl⟩
theorem ents_mem_of {LL : List (List Int)} {n m : Nat} {p : List Int} (hm : m < n) (hp : p ∈ classV LL m) : ent LL p ∈ ents LL n := by
  rw [ents, List.mem_flatMap]
  exact ⟨m, List.mem_range.2 hm, List.mem_map.2 ⟨p, hp, rfl⟩⟩
theorem class_pl {LL : List (List Int)} {m : Nat} {p : List Int} (hp : p ∈ classV LL m) : p.length = m := permsV_len (classV_mem hp).1
theorem ent_facts {LL : List (List Int)} {n : Nat} (hn : n ≤ 6) {Z : List Int} (h : Z ∈ ents LL n) : 0 ≤ hd Z ∧ hd Z ≤ 6 ∧ Z.length ≤ 8 ∧ Z ≠ [] := by
  obtain ⟨m, p, hm, hp, rfl⟩ := ents_mem h
  have hl := class_pl hp
  have h1 := sitesT_len LL p (p.length + 1)
  have h2 := childrenV_len LL p
  rw [hd_ent]
  refine ⟨by simp [siteN], by simp only [siteN, sitesV]; omega, ?_, by simp [ent]⟩
  rw [ent, List.length_cons, labsV_length]; omega
theorem str_short {R : List (List Int)} (h : Str R) (h0 : ∀ z ∈ R, 0 ≤ hd z ∧ hd z ≤ 6) : R.length ≤ 7 := by
  have : ∀ i, i < R.length → (i : Int) ≤ hd (R.getD i []) := by
    intro i
    induction i with
    | zero => intro hi; rw [getD_SS hi]; exact (h0 _ (List.getElem_mem hi)).1
    | succ i ih =>
      intro hi
      have h1 := ih (by omega)
      have h2 := str_idx h (show i < i + 1 by omega) hi
      omega
  rcases Nat.lt_or_ge 7 R.length with h1 | h1
  · have h2 := this 7 h1
    rw [getD_SS h1] at h2
    have := (h0 _ (List.getElem_mem h1)).2
    omega
  · exact h1
theorem told_short {LL R : List (List Int)} {E : List (List Int)} {n : Nat} (hn : n ≤ 6) (hE : ∀ z ∈ E, z ∈ ents LL n) (h : Told E R) : R.length ≤ 7 := str_short h.1 fun z hz => by
  have := ent_facts hn (hE z ((h.2 z).1 hz)); exact ⟨this.1, this.2.1⟩
theorem RuleUpToV_len (LL : List (List Int)) (n : Int) : (RuleUpToV LL n).length < 2^38 ∧ tot (RuleUpToV LL n) < 2^38 := by
  by_cases h : BasisOk LL ∧ 0 ≤ n ∧ n ≤ 5 ∧ ∃ R, Told (ents LL (n.toNat + 1)) R
  · obtain ⟨h1, h2, h3, R, hR⟩ := h
    rw [(told_V h1 h2 h3 hR).2]
    have hs := told_short (n := n.toNat + 1) (by omega) (fun z hz => hz) hR
    have := tot_le_mul' (l := R) (n := 8) fun p hp => (ent_facts (n := n.toNat + 1) (by omega) ((hR.2 p).1 hp)).2.2.1
    omega
  · rw [(told_no h).2]; simp [tot]
end Go.Proofs.YteplokddaebbeaaGreat

/- What each function does, step by step, written by a program (Gen.lean); each equation is checked by the kernel. -/
namespace Go.Proofs.YteplokddaebbeaaGreat
open Go
set_option linter.unusedVariables false
set_option maxRecDepth 100000
namespace spec_RuleCounts
@[reducible] def cfg : Cfg := ⟨65, [(3, [0, 1, 2, 7, 8]), (11, [0, 2, 7, 9, 10])], [(1, [0, 1, 2, 7, 8]), (0, [0, 1, 2, 7]), (3, [0, 2, 7, 9, 10]), (2, [7])], [], [6], [], [13, 12, 21, 89, 36, 108, 74, 75, 104, 78, 125], [73, 117, 103, 46, 4, 30, 40]⟩
def q2 (pr : Prims) (R : Ending → World → Prop) : Exit → Env → World → Prop := fun ex e w => normQ ex (fun e w => contE pr cfg (sub (codeOf Tryz.f18) [1, 1, 1]) (fun e w => wpC pr PP cfg (DD pr) (sub (codeOf Tryz.f18) [1, 1, 1]) (retQ Tryz.f18.results.toList R) e w) e w) (retQ Tryz.f18.results.toList R) e w
def q3 (pr : Prims) (R : Ending → World → Prop) : Exit → Env → World → Prop := fun ex e w => blockQ ex 0 (q2 pr R) e w
def q11 (pr : Prims) (R : Ending → World → Prop) : Exit → Env → World → Prop := fun ex e w => normQ ex (fun e w => contE pr cfg (sub (codeOf Tryz.f18) [1, 1, 1, 1, 1, 1]) (fun e w => wpC pr PP cfg (DD pr) (sub (codeOf Tryz.f18) [1, 1, 1, 1, 1, 1]) (retQ Tryz.f18.results.toList R) e w) e w) (retQ Tryz.f18.results.toList R) e w
def q12 (pr : Prims) (R : Ending → World → Prop) : Exit → Env → World → Prop := fun ex e w => blockQ ex 2 (q11 pr R) e w
def emb3 (rule_0 : Sl) (label_1 : Int) (n_2 : Int) (out_7 : Sl) (k_8 : Int) : Env := [(0, Sl.v rule_0), (1, vI label_1), (2, vI n_2), (7, Sl.v out_7), (8, vI k_8)]
def x0 (rule_0 : Sl) (label_1 : Int) (n_2 : Int) (out_7 : Sl) : Env := [(0, Sl.v rule_0), (1, vI label_1), (2, vI n_2), (7, Sl.v out_7)]
def emb11 (rule_0 : Sl) (n_2 : Int) (out_7 : Sl) (labels_9 : Sl) (k_10 : Int) : Env := [(0, Sl.v rule_0), (2, vI n_2), (7, Sl.v out_7), (9, Sl.v labels_9), (10, vI k_10)]
def x2 (out_7 : Sl) : Env := [(7, Sl.v out_7)]
def S3 (pr : Prims) (Q : Exit → Env → World → Prop) : (Env → World → Prop) → Env → World → Prop := fun k e w => wpC pr PP cfg (DD pr) (sub (codeOf Tryz.f18) [1, 1, 0, 1, 0, 0]) (fun ex e w => normQ ex (fun e' w' => k (Env.restr e' (lookN cfg.loops (keyOf (sub (codeOf Tryz.f18) [1, 1, 0, 1, 0, 0])))) w') Q e w) e w
def S11 (pr : Prims) (Q : Exit → Env → World → Prop) : (Env → World → Prop) → Env → World → Prop := fun k e w => wpC pr PP cfg (DD pr) (sub (codeOf Tryz.f18) [1, 1, 1, 1, 1, 0, 1, 0, 0]) (fun ex e w => normQ ex (fun e' w' => k (Env.restr e' (lookN cfg.loops (keyOf (sub (codeOf Tryz.f18) [1, 1, 1, 1, 1, 0, 1, 0, 0])))) w') Q e w) e w
def B3 (pr : Prims) (rule_0 : Sl) (label_1 : Int) (n_2 : Int) (out_7 : Sl) (k_8 : Int) (w : World) (k : Env → World → Prop) (Q : Exit → Env → World → Prop) : Prop :=
  S3 pr Q k (emb3 rule_0 label_1 n_2 out_7 k_8) w
def L3 (pr : Prims) (rule_0 : Sl) (label_1 : Int) (n_2 : Int) (out_7 : Sl) (k_8 : Int) (w : World) (Q : Exit → Env → World → Prop) : Prop :=
  pr.loop (S3 pr Q) (emb3 rule_0 label_1 n_2 out_7 k_8) w
def B11 (pr : Prims) (rule_0 : Sl) (n_2 : Int) (out_7 : Sl) (labels_9 : Sl) (k_10 : Int) (w : World) (k : Env → World → Prop) (Q : Exit → Env → World → Prop) : Prop :=
  S11 pr Q k (emb11 rule_0 n_2 out_7 labels_9 k_10) w
def L11 (pr : Prims) (rule_0 : Sl) (n_2 : Int) (out_7 : Sl) (labels_9 : Sl) (k_10 : Int) (w : World) (Q : Exit → Env → World → Prop) : Prop :=
  pr.loop (S11 pr Q) (emb11 rule_0 n_2 out_7 labels_9 k_10) w
def E (pr : Prims) (rule_0 : Sl) (label_1 : Int) (n_2 : Int) (w : World) (R : Ending → World → Prop) : Prop :=
  wpC pr PP cfg (DD pr) (codeOf Tryz.f18) (retQ Tryz.f18.results.toList R) (argE 0 [Sl.v rule_0, vI label_1, vI n_2]) w
theorem B3_eq (pr : Prims) (rule_0 : Sl) (label_1 : Int) (n_2 : Int) (out_7 : Sl) (k_8 : Int) (w : World) (k : Env → World → Prop) (Q : Exit → Env → World → Prop) : B3 pr rule_0 label_1 n_2 out_7 k_8 w k Q = (
  bif decide (k_8 < (rule_0.n : Int)) then (
  pr.idxK 1 rule_0 k_8 fun (a4 : Addr) =>
  pr.load1 .sl a4 w fun (ξ5 : Sl) =>
  bif (ξ5.n : Int) == 0 then (
  Q .ret [(6, Sl.v out_7)] w)
  else (
  pr.idxK 1 rule_0 k_8 fun (a6 : Addr) =>
  pr.load1 .sl a6 w fun (ξ7 : Sl) =>
  bif decide ((ξ7.n : Int) > 20) then (
  Q .ret [(6, Sl.v out_7)] w)
  else (
  bif decide ((rule_0.n : Int) > 20) then (
  Q .ret [(6, Sl.v out_7)] w)
  else (
  k (emb3 rule_0 label_1 n_2 out_7 (w64 (k_8 + 1))) w))))
  else (
  Q (.exit 0) (x0 rule_0 label_1 n_2 out_7) w)) := by kernel_rfl
theorem B3_s (rule_0 : Sl) (label_1 : Int) (n_2 : Int) (out_7 : Sl) (k_8 : Int) (w : World) (k : Env → World → Prop) (Q : Exit → Env → World → Prop) : B3 std rule_0 label_1 n_2 out_7 k_8 w k Q = (
  bif decide (k_8 < (rule_0.n : Int)) then (
  idxK 1 rule_0 k_8 fun (a4 : Addr) =>
  load1 .sl a4 w fun (ξ5 : Sl) =>
  bif (ξ5.n : Int) == 0 then (
  Q .ret [(6, Sl.v out_7)] w)
  else (
  idxK 1 rule_0 k_8 fun (a6 : Addr) =>
  load1 .sl a6 w fun (ξ7 : Sl) =>
  bif decide ((ξ7.n : Int) > 20) then (
  Q .ret [(6, Sl.v out_7)] w)
  else (
  bif decide ((rule_0.n : Int) > 20) then (
  Q .ret [(6, Sl.v out_7)] w)
  else (
  k (emb3 rule_0 label_1 n_2 out_7 (w64 (k_8 + 1))) w))))
  else (
  Q (.exit 0) (x0 rule_0 label_1 n_2 out_7) w)) := B3_eq std rule_0 label_1 n_2 out_7 k_8 w k Q
theorem L3_rule (rule_0 : Sl) (label_1 : Int) (n_2 : Int) (out_7 : Sl) (k_8 : Int) (w : World) (Q : Exit → Env → World → Prop) (I : Int → World → Prop) (μ : Int → World → Nat) (h0 : I k_8 w)
    (h : ∀ (k_8 : Int) (w' : World), I k_8 w' → B3 std rule_0 label_1 n_2 out_7 k_8 w' (fun e2 w2 => ∃ k_8_n, e2 = emb3 rule_0 label_1 n_2 out_7 k_8_n ∧ I k_8_n w2 ∧ μ k_8_n w2 < μ k_8 w') Q) :
    L3 std rule_0 label_1 n_2 out_7 k_8 w Q := by
  unfold L3
  refine LoopE.intro (σ := Int) (step := S3 std Q) (fun s => emb3 rule_0 label_1 n_2 out_7 s) (fun s w => I s w) (fun s w => μ s w) k_8 rfl h0 ?_
  intro s w' hI
  have h1 := h s w' hI
  unfold B3 at h1
  exact h1
theorem B11_eq (pr : Prims) (rule_0 : Sl) (n_2 : Int) (out_7 : Sl) (labels_9 : Sl) (k_10 : Int) (w : World) (k : Env → World → Prop) (Q : Exit → Env → World → Prop) : B11 pr rule_0 n_2 out_7 labels_9 k_10 w k Q = (
  bif decide (k_10 ≤ n_2) then (
  bif decide ((labels_9.n : Int) > 5000) then (
  pr.sem1 .sl PP (Instr.buildSlice T_Sint 0 #[]) w fun (ρ13 : Sl) ω14 =>
  Q .ret [(6, Sl.v ρ13)] ω14)
  else (
  pr.sem1 .sl PP (Instr.buildSlice T_Sint 1 #[(0, vI (labels_9.n : Int))]) w fun (ρ15 : Sl) ω16 =>
  pr.sem1 .sl PP (Builtin.append_ #[T_Sint, T_Sint] T_Sint #[Sl.v out_7, Sl.v ρ15]) ω16 fun (ρ17 : Sl) ω18 =>
  bif decide (k_10 < n_2) then (
  pr.call1 .sl PP F.spec_l15Step #[Sl.v rule_0, Sl.v labels_9] ω18 fun (ρ19 : Sl) ω20 =>
  k (emb11 rule_0 n_2 ρ17 ρ19 (w64 (k_10 + 1))) ω20)
  else (
  k (emb11 rule_0 n_2 ρ17 labels_9 (w64 (k_10 + 1))) ω18)))
  else (
  Q (.exit 2) (x2 out_7) w)) := by kernel_rfl
theorem B11_s (rule_0 : Sl) (n_2 : Int) (out_7 : Sl) (labels_9 : Sl) (k_10 : Int) (w : World) (k : Env → World → Prop) (Q : Exit → Env → World → Prop) : B11 std rule_0 n_2 out_7 labels_9 k_10 w k Q = (
  bif decide (k_10 ≤ n_2) then (
  bif decide ((labels_9.n : Int) > 5000) then (
  sem1 .sl PP (Instr.buildSlice T_Sint 0 #[]) w fun (ρ13 : Sl) ω14 =>
  Q .ret [(6, Sl.v ρ13)] ω14)
  else (
  sem1 .sl PP (Instr.buildSlice T_Sint 1 #[(0, vI (labels_9.n : Int))]) w fun (ρ15 : Sl) ω16 =>
  sem1 .sl PP (Builtin.append_ #[T_Sint, T_Sint] T_Sint #[Sl.v out_7, Sl.v ρ15]) ω16 fun (ρ17 : Sl) ω18 =>
  bif decide (k_10 < n_2) then (
  call1 .sl PP F.spec_l15Step #[Sl.v rule_0, Sl.v labels_9] ω18 fun (ρ19 : Sl) ω20 =>
  k (emb11 rule_0 n_2 ρ17 ρ19 (w64 (k_10 + 1))) ω20)
  else (
  k (emb11 rule_0 n_2 ρ17 labels_9 (w64 (k_10 + 1))) ω18)))
  else (
  Q (.exit 2) (x2 out_7) w)) := B11_eq std rule_0 n_2 out_7 labels_9 k_10 w k Q
theorem L11_rule (rule_0 : Sl) (n_2 : Int) (out_7 : Sl) (labels_9 : Sl) (k_10 : Int) (w : World) (Q : Exit → Env → World → Prop) (I : Sl → Sl → Int → World → Prop) (μ : Sl → Sl → Int → World → Nat) (h0 : I out_7 labels_9 k_10 w)
    (h : ∀ (out_7 : Sl) (labels_9 : Sl) (k_10 : Int) (w' : World), I out_7 labels_9 k_10 w' → B11 std rule_0 n_2 out_7 labels_9 k_10 w' (fun e2 w2 => ∃ out_7_n labels_9_n k_10_n, e2 = emb11 rule_0 n_2 out_7_n labels_9_n k_10_n ∧ I out_7_n labels_9_n k_10_n w2 ∧ μ out_7_n labels_9_n k_10_n w2 < μ out_7 labels_9 k_10 w') Q) :
    L11 std rule_0 n_2 out_7 labels_9 k_10 w Q := by
  unfold L11
  refine LoopE.intro (σ := Sl × Sl × Int) (step := S11 std Q) (fun s => emb11 rule_0 n_2 s.1 s.2.1 s.2.2) (fun s w => I s.1 s.2.1 s.2.2 w) (fun s w => μ s.1 s.2.1 s.2.2 w) (out_7, labels_9, k_10) rfl h0 ?_
  intro s w' hI
  have h1 := h s.1 s.2.1 s.2.2 w' hI
  unfold B11 at h1
  simp only [Prod.exists]
  exact h1
theorem A11_2_eq (pr : Prims) (out_7 : Sl) (w : World) (R : Ending → World → Prop) : (q12 pr R) (.exit 2) (x2 out_7) w = (
  R (.returned (Sl.v out_7)) w) := by kernel_rfl
theorem A11_2_s (out_7 : Sl) (w : World) (R : Ending → World → Prop) : (q12 std R) (.exit 2) (x2 out_7) w = (
  R (.returned (Sl.v out_7)) w) := A11_2_eq std out_7 w R
theorem R11_eq (pr : Prims) (v6 : Value) (w : World) (R : Ending → World → Prop) : (q12 pr R) .ret [(6, v6)] w = (
  R (.returned (v6)) w) := by kernel_rfl
theorem R11_s (v6 : Value) (w : World) (R : Ending → World → Prop) : (q12 std R) .ret [(6, v6)] w = (
  R (.returned (v6)) w) := R11_eq std v6 w R
theorem A3_0_eq (pr : Prims) (rule_0 : Sl) (label_1 : Int) (n_2 : Int) (out_7 : Sl) (w : World) (R : Ending → World → Prop) : (q3 pr R) (.exit 0) (x0 rule_0 label_1 n_2 out_7) w = (
  pr.pcall1 .bool PP F.spec_l1In #[vI n_2, vI 0, vI 8] fun (ρ8 : Bool) =>
  bif !ρ8 then (
  R (.returned (Sl.v out_7)) w)
  else (
  pr.sem1 .sl PP (Instr.buildSlice T_Sint 1 #[(0, vI label_1)]) w fun (ρ9 : Sl) ω10 =>
  L11 pr rule_0 n_2 out_7 ρ9 0 ω10 (q12 pr R))) := by kernel_rfl
theorem A3_0_s (rule_0 : Sl) (label_1 : Int) (n_2 : Int) (out_7 : Sl) (w : World) (R : Ending → World → Prop) : (q3 std R) (.exit 0) (x0 rule_0 label_1 n_2 out_7) w = (
  pcall1 .bool PP F.spec_l1In #[vI n_2, vI 0, vI 8] fun (ρ8 : Bool) =>
  bif !ρ8 then (
  R (.returned (Sl.v out_7)) w)
  else (
  sem1 .sl PP (Instr.buildSlice T_Sint 1 #[(0, vI label_1)]) w fun (ρ9 : Sl) ω10 =>
  L11 std rule_0 n_2 out_7 ρ9 0 ω10 (q12 std R))) := A3_0_eq std rule_0 label_1 n_2 out_7 w R
theorem R3_eq (pr : Prims) (v6 : Value) (w : World) (R : Ending → World → Prop) : (q3 pr R) .ret [(6, v6)] w = (
  R (.returned (v6)) w) := by kernel_rfl
theorem R3_s (v6 : Value) (w : World) (R : Ending → World → Prop) : (q3 std R) .ret [(6, v6)] w = (
  R (.returned (v6)) w) := R3_eq std v6 w R
theorem E_eq (pr : Prims) (rule_0 : Sl) (label_1 : Int) (n_2 : Int) (w : World) (R : Ending → World → Prop) : E pr rule_0 label_1 n_2 w R = (
  pr.sem1 .sl PP (Instr.buildSlice T_Sint 0 #[]) w fun (ρ0 : Sl) ω1 =>
  L3 pr rule_0 label_1 n_2 ρ0 0 ω1 (q3 pr R)) := by kernel_rfl
theorem E_s (rule_0 : Sl) (label_1 : Int) (n_2 : Int) (w : World) (R : Ending → World → Prop) : E std rule_0 label_1 n_2 w R = (
  sem1 .sl PP (Instr.buildSlice T_Sint 0 #[]) w fun (ρ0 : Sl) ω1 =>
  L3 std rule_0 label_1 n_2 ρ0 0 ω1 (q3 std R)) := E_eq std rule_0 label_1 n_2 w R
theorem drawsOk : drawsOk PP cfg okD (codeOf Tryz.f18) = true := by kernel_rfl
theorem calls (rule_0 : Sl) (label_1 : Int) (n_2 : Int) {w : World} {R : Ending → World → Prop} (h : E std rule_0 label_1 n_2 w R) : Calls PP F.spec_RuleCounts #[Sl.v rule_0, vI label_1, vI n_2] w R :=
  calls_of noCount mixed drawOk Tryz.func18 rfl (c := cfg) (args := [Sl.v rule_0, vI label_1, vI n_2]) rfl (Nat.le_of_ble_eq_true (by kernel_rfl)) drawsOk h
end spec_RuleCounts

namespace impl_RuleCounts
@[reducible] def cfg : Cfg := ⟨65, [(9, [0, 8, 9, 31, 32, 35, 36, 37]), (6, [0, 7, 8, 31, 32])], [(3, [0, 8, 9, 31, 32, 35, 36, 37]), (2, [0, 8, 9, 31, 32]), (1, [0, 7, 8, 31, 32]), (0, [8])], [(14, [0, 8, 9, 31, 32, 35, 36, 37])], [6], [], [13, 12, 21, 89, 36, 108, 74, 75, 104, 78, 125], [73, 117, 103, 46, 4, 30, 40]⟩
def q6 (pr : Prims) (R : Ending → World → Prop) : Exit → Env → World → Prop := fun ex e w => normQ ex (fun e w => contE pr cfg (sub (codeOf Tryz.f17) [1, 1, 1, 1, 1]) (fun e w => wpC pr PP cfg (DD pr) (sub (codeOf Tryz.f17) [1, 1, 1, 1, 1]) (retQ Tryz.f17.results.toList R) e w) e w) (retQ Tryz.f17.results.toList R) e w
def q7 (pr : Prims) (R : Ending → World → Prop) : Exit → Env → World → Prop := fun ex e w => blockQ ex 0 (q6 pr R) e w
def q8 (pr : Prims) (k : Env → World → Prop) (Q : Exit → Env → World → Prop) : Exit → Env → World → Prop := fun ex e w => normQ ex (fun e w => contE pr cfg (sub (codeOf Tryz.f17) [1, 1, 1, 1, 0, 1, 0, 0, 1, 1, 1]) (fun e w => wpC pr PP cfg (DD pr) (sub (codeOf Tryz.f17) [1, 1, 1, 1, 0, 1, 0, 0, 1, 1, 1]) (fun ex e w => normQ ex (fun e' w' => k (Env.restr e' (lookN cfg.loops (keyOf (sub (codeOf Tryz.f17) [1, 1, 1, 1, 0, 1, 0, 0])))) w') Q e w) e w) e w) (fun ex e w => normQ ex (fun e' w' => k (Env.restr e' (lookN cfg.loops (keyOf (sub (codeOf Tryz.f17) [1, 1, 1, 1, 0, 1, 0, 0])))) w') Q e w) e w
def q9 (pr : Prims) (k : Env → World → Prop) (Q : Exit → Env → World → Prop) : Exit → Env → World → Prop := fun ex e w => blockQ ex 1 (q8 pr k Q) e w
def q12 (pr : Prims) (k : Env → World → Prop) (Q : Exit → Env → World → Prop) : Exit → Env → World → Prop := fun ex e w => normQ ex (fun e w => contE pr cfg (sub (codeOf Tryz.f17) [1, 1, 1, 1, 0, 1, 0, 0, 1, 1, 0, 0, 1, 1]) (fun e w => wpC pr PP cfg (DD pr) (sub (codeOf Tryz.f17) [1, 1, 1, 1, 0, 1, 0, 0, 1, 1, 0, 0, 1, 1]) (q9 pr k Q) e w) e w) (q9 pr k Q) e w
def q13 (pr : Prims) (k : Env → World → Prop) (Q : Exit → Env → World → Prop) : Exit → Env → World → Prop := fun ex e w => blockQ ex 2 (q12 pr k Q) e w
def q14 (pr : Prims) (k : Env → World → Prop) (Q : Exit → Env → World → Prop) : Exit → Env → World → Prop := fun ex e w => normQ ex (fun e w => contE pr cfg (sub (codeOf Tryz.f17) [1, 1, 1, 1, 0, 1, 0, 0, 1, 1, 0, 0, 1, 0, 1, 0, 0, 1, 1, 1]) (fun e w => wpC pr PP cfg (DD pr) (sub (codeOf Tryz.f17) [1, 1, 1, 1, 0, 1, 0, 0, 1, 1, 0, 0, 1, 0, 1, 0, 0, 1, 1, 1]) (fun ex e w => normQ ex (fun e' w' => k (Env.restr e' (lookN cfg.loops (keyOf (sub (codeOf Tryz.f17) [1, 1, 1, 1, 0, 1, 0, 0, 1, 1, 0, 0, 1, 0, 1, 0, 0])))) w') Q e w) e w) e w) (fun ex e w => normQ ex (fun e' w' => k (Env.restr e' (lookN cfg.loops (keyOf (sub (codeOf Tryz.f17) [1, 1, 1, 1, 0, 1, 0, 0, 1, 1, 0, 0, 1, 0, 1, 0, 0])))) w') Q e w) e w
def q15 (pr : Prims) (k : Env → World → Prop) (Q : Exit → Env → World → Prop) : Exit → Env → World → Prop := fun ex e w => blockQ ex 3 (q14 pr k Q) e w
def q23 (pr : Prims) (k : Env → World → Prop) (Q : Exit → Env → World → Prop) : Exit → Env → World → Prop := fun ex e w => normQ ex (fun e w => contE pr cfg (sub (codeOf Tryz.f17) [1, 1, 1, 1, 0, 1, 0, 0, 1, 1, 0, 0, 1, 0, 1, 0, 0, 1, 1, 0, 0, 1, 1, 1]) (fun e w => wpC pr PP cfg (DD pr) (sub (codeOf Tryz.f17) [1, 1, 1, 1, 0, 1, 0, 0, 1, 1, 0, 0, 1, 0, 1, 0, 0, 1, 1, 0, 0, 1, 1, 1]) (q15 pr k Q) e w) e w) (q15 pr k Q) e w
def emb6 (rule_0 : Sl) (list_7 : Sl) (out_8 : Sl) (t31 : Int) (t32 : Int) : Env := [(0, Sl.v rule_0), (7, Sl.v list_7), (8, Sl.v out_8), (31, vI t31), (32, vI t32)]
def emb9 (rule_0 : Sl) (out_8 : Sl) (next_9 : Sl) (t31 : Int) (t32 : Int) (t35 : Sl) (t36 : Int) (t37 : Int) : Env := [(0, Sl.v rule_0), (8, Sl.v out_8), (9, Sl.v next_9), (31, vI t31), (32, vI t32), (35, Sl.v t35), (36, vI t36), (37, vI t37)]
def j14 (rule_0 : Sl) (out_8 : Sl) (next_9 : Sl) (t31 : Int) (t32 : Int) (t35 : Sl) (t36 : Int) (t37 : Int) : Env := [(0, Sl.v rule_0), (8, Sl.v out_8), (9, Sl.v next_9), (31, vI t31), (32, vI t32), (35, Sl.v t35), (36, vI t36), (37, vI t37)]
def x2 (rule_0 : Sl) (out_8 : Sl) (next_9 : Sl) (t31 : Int) (t32 : Int) : Env := [(0, Sl.v rule_0), (8, Sl.v out_8), (9, Sl.v next_9), (31, vI t31), (32, vI t32)]
def x0 (out_8 : Sl) : Env := [(8, Sl.v out_8)]
def S9 (pr : Prims) (Q : Exit → Env → World → Prop) : (Env → World → Prop) → Env → World → Prop := fun k e w => wpC pr PP cfg (DD pr) (sub (codeOf Tryz.f17) [1, 1, 1, 1, 0, 1, 0, 0, 1, 1, 0, 0, 1, 0, 1, 0, 0]) (fun ex e w => normQ ex (fun e' w' => k (Env.restr e' (lookN cfg.loops (keyOf (sub (codeOf Tryz.f17) [1, 1, 1, 1, 0, 1, 0, 0, 1, 1, 0, 0, 1, 0, 1, 0, 0])))) w') Q e w) e w
def S6 (pr : Prims) (Q : Exit → Env → World → Prop) : (Env → World → Prop) → Env → World → Prop := fun k e w => wpC pr PP cfg (DD pr) (sub (codeOf Tryz.f17) [1, 1, 1, 1, 0, 1, 0, 0]) (fun ex e w => normQ ex (fun e' w' => k (Env.restr e' (lookN cfg.loops (keyOf (sub (codeOf Tryz.f17) [1, 1, 1, 1, 0, 1, 0, 0])))) w') Q e w) e w
def J14 (pr : Prims) (rule_0 : Sl) (out_8 : Sl) (next_9 : Sl) (t31 : Int) (t32 : Int) (t35 : Sl) (t36 : Int) (t37 : Int) (w : World) (k : Env → World → Prop) (Q : Exit → Env → World → Prop) : Prop :=
  pr.seg (fun e w => wpC pr PP cfg (DD pr) (sub (codeOf Tryz.f17) [1, 1, 1, 1, 0, 1, 0, 0, 1, 1, 0, 0, 1, 0, 1, 0, 0, 1, 1, 0, 0, 1, 1, 1]) (q15 pr k Q) e w) (j14 rule_0 out_8 next_9 t31 t32 t35 t36 t37) w
def B9 (pr : Prims) (rule_0 : Sl) (out_8 : Sl) (next_9 : Sl) (t31 : Int) (t32 : Int) (t35 : Sl) (t36 : Int) (t37 : Int) (w : World) (k : Env → World → Prop) (Q : Exit → Env → World → Prop) : Prop :=
  S9 pr Q k (emb9 rule_0 out_8 next_9 t31 t32 t35 t36 t37) w
def L9 (pr : Prims) (rule_0 : Sl) (out_8 : Sl) (next_9 : Sl) (t31 : Int) (t32 : Int) (t35 : Sl) (t36 : Int) (t37 : Int) (w : World) (Q : Exit → Env → World → Prop) : Prop :=
  pr.loop (S9 pr Q) (emb9 rule_0 out_8 next_9 t31 t32 t35 t36 t37) w
def B6 (pr : Prims) (rule_0 : Sl) (list_7 : Sl) (out_8 : Sl) (t31 : Int) (t32 : Int) (w : World) (k : Env → World → Prop) (Q : Exit → Env → World → Prop) : Prop :=
  S6 pr Q k (emb6 rule_0 list_7 out_8 t31 t32) w
def L6 (pr : Prims) (rule_0 : Sl) (list_7 : Sl) (out_8 : Sl) (t31 : Int) (t32 : Int) (w : World) (Q : Exit → Env → World → Prop) : Prop :=
  pr.loop (S6 pr Q) (emb6 rule_0 list_7 out_8 t31 t32) w
def E (pr : Prims) (rule_0 : Sl) (label_1 : Int) (n_2 : Int) (w : World) (R : Ending → World → Prop) : Prop :=
  wpC pr PP cfg (DD pr) (codeOf Tryz.f17) (retQ Tryz.f17.results.toList R) (argE 0 [Sl.v rule_0, vI label_1, vI n_2]) w
theorem J14_gen (pr : Prims) (rule_0 : Sl) (out_8 : Sl) (next_9 : Sl) (t31 : Int) (t32 : Int) (t35 : Sl) (t36 : Int) (t37 : Int) (w : World) (k : Env → World → Prop) (Q : Exit → Env → World → Prop) : wpC pr PP cfg (DD pr) (sub (codeOf Tryz.f17) [1, 1, 1, 1, 0, 1, 0, 0, 1, 1, 0, 0, 1, 0, 1, 0, 0, 1, 1, 0, 0, 1, 1, 1]) (q15 pr k Q) (j14 rule_0 out_8 next_9 t31 t32 t35 t36 t37) w = (
  bif decide ((next_9.n : Int) > 5000) then (
  Q .ret [(6, Sl.v Sl.nil)] w)
  else (
  k (emb9 rule_0 out_8 next_9 t31 t32 t35 t36 (w64 (t37 + 1))) w)) := by kernel_rfl
theorem J14_s (rule_0 : Sl) (out_8 : Sl) (next_9 : Sl) (t31 : Int) (t32 : Int) (t35 : Sl) (t36 : Int) (t37 : Int) (w : World) (k : Env → World → Prop) (Q : Exit → Env → World → Prop) : J14 std rule_0 out_8 next_9 t31 t32 t35 t36 t37 w k Q = (
  bif decide ((next_9.n : Int) > 5000) then (
  Q .ret [(6, Sl.v Sl.nil)] w)
  else (
  k (emb9 rule_0 out_8 next_9 t31 t32 t35 t36 (w64 (t37 + 1))) w)) := J14_gen std rule_0 out_8 next_9 t31 t32 t35 t36 t37 w k Q
theorem B9_eq (pr : Prims) (rule_0 : Sl) (out_8 : Sl) (next_9 : Sl) (t31 : Int) (t32 : Int) (t35 : Sl) (t36 : Int) (t37 : Int) (w : World) (k : Env → World → Prop) (Q : Exit → Env → World → Prop) : B9 pr rule_0 out_8 next_9 t31 t32 t35 t36 t37 w k Q = (
  bif decide (t37 < t36) then (
  pr.idxK 1 t35 t37 fun (a16 : Addr) =>
  pr.load1 (.int .i64) a16 w fun (ξ17 : Int) =>
  pr.newK T_int #[vI 0] w fun (a18 : Addr) ω19 =>
  pr.storeC a18 (vI ξ17) ω19 fun ω20 =>
  pr.call1 (.int .i64) PP F.slices_IndexFunc_____int___int_ #[Sl.v rule_0, (.func (.func F.impl_RuleCountsL2) #[] #[.pointer (some a18)])] ω20 fun (ρ21 : Int) ω22 =>
  bif decide (ρ21 ≥ 0) then (
  pr.idxK 1 rule_0 ρ21 fun (a24 : Addr) =>
  pr.load1 .sl a24 ω22 fun (ξ25 : Sl) =>
  pr.cutK 1 ξ25 (some 1) none fun (s26 : Sl) =>
  pr.sem1 .sl PP (Builtin.append_ #[T_Sint, T_Sint] T_Sint #[Sl.v next_9, Sl.v s26]) ω22 fun (ρ27 : Sl) ω28 =>
  J14 pr rule_0 out_8 ρ27 t31 t32 t35 t36 t37 ω28 k Q)
  else (
  J14 pr rule_0 out_8 next_9 t31 t32 t35 t36 t37 ω22 k Q))
  else (
  Q (.exit 2) (x2 rule_0 out_8 next_9 t31 t32) w)) := by kernel_rfl
theorem B9_s (rule_0 : Sl) (out_8 : Sl) (next_9 : Sl) (t31 : Int) (t32 : Int) (t35 : Sl) (t36 : Int) (t37 : Int) (w : World) (k : Env → World → Prop) (Q : Exit → Env → World → Prop) : B9 std rule_0 out_8 next_9 t31 t32 t35 t36 t37 w k Q = (
  bif decide (t37 < t36) then (
  idxK 1 t35 t37 fun (a16 : Addr) =>
  load1 (.int .i64) a16 w fun (ξ17 : Int) =>
  newK T_int #[vI 0] w fun (a18 : Addr) ω19 =>
  storeC a18 (vI ξ17) ω19 fun ω20 =>
  call1 (.int .i64) PP F.slices_IndexFunc_____int___int_ #[Sl.v rule_0, (.func (.func F.impl_RuleCountsL2) #[] #[.pointer (some a18)])] ω20 fun (ρ21 : Int) ω22 =>
  bif decide (ρ21 ≥ 0) then (
  idxK 1 rule_0 ρ21 fun (a24 : Addr) =>
  load1 .sl a24 ω22 fun (ξ25 : Sl) =>
  cutK 1 ξ25 (some 1) none fun (s26 : Sl) =>
  sem1 .sl PP (Builtin.append_ #[T_Sint, T_Sint] T_Sint #[Sl.v next_9, Sl.v s26]) ω22 fun (ρ27 : Sl) ω28 =>
  J14 std rule_0 out_8 ρ27 t31 t32 t35 t36 t37 ω28 k Q)
  else (
  J14 std rule_0 out_8 next_9 t31 t32 t35 t36 t37 ω22 k Q))
  else (
  Q (.exit 2) (x2 rule_0 out_8 next_9 t31 t32) w)) := B9_eq std rule_0 out_8 next_9 t31 t32 t35 t36 t37 w k Q
theorem L9_rule (rule_0 : Sl) (out_8 : Sl) (next_9 : Sl) (t31 : Int) (t32 : Int) (t35 : Sl) (t36 : Int) (t37 : Int) (w : World) (Q : Exit → Env → World → Prop) (I : Sl → Int → World → Prop) (μ : Sl → Int → World → Nat) (h0 : I next_9 t37 w)
    (h : ∀ (next_9 : Sl) (t37 : Int) (w' : World), I next_9 t37 w' → B9 std rule_0 out_8 next_9 t31 t32 t35 t36 t37 w' (fun e2 w2 => ∃ next_9_n t37_n, e2 = emb9 rule_0 out_8 next_9_n t31 t32 t35 t36 t37_n ∧ I next_9_n t37_n w2 ∧ μ next_9_n t37_n w2 < μ next_9 t37 w') Q) :
    L9 std rule_0 out_8 next_9 t31 t32 t35 t36 t37 w Q := by
  unfold L9
  refine LoopE.intro (σ := Sl × Int) (step := S9 std Q) (fun s => emb9 rule_0 out_8 s.1 t31 t32 t35 t36 s.2) (fun s w => I s.1 s.2 w) (fun s w => μ s.1 s.2 w) (next_9, t37) rfl h0 ?_
  intro s w' hI
  have h1 := h s.1 s.2 w' hI
  unfold B9 at h1
  simp only [Prod.exists]
  exact h1
theorem A9_2_eq (pr : Prims) (rule_0 : Sl) (out_8 : Sl) (next_9 : Sl) (t31 : Int) (t32 : Int) (w : World) (k : Env → World → Prop) (Q : Exit → Env → World → Prop) : (q13 pr k Q) (.exit 2) (x2 rule_0 out_8 next_9 t31 t32) w = (
  pr.sem1 .sl PP (Instr.buildSlice T_Sint 1 #[(0, vI (next_9.n : Int))]) w fun (ρ29 : Sl) ω30 =>
  pr.sem1 .sl PP (Builtin.append_ #[T_Sint, T_Sint] T_Sint #[Sl.v out_8, Sl.v ρ29]) ω30 fun (ρ31 : Sl) ω32 =>
  k (emb6 rule_0 next_9 ρ31 t31 (w64 (t32 + 1))) ω32) := by kernel_rfl
theorem A9_2_s (rule_0 : Sl) (out_8 : Sl) (next_9 : Sl) (t31 : Int) (t32 : Int) (w : World) (k : Env → World → Prop) (Q : Exit → Env → World → Prop) : (q13 std k Q) (.exit 2) (x2 rule_0 out_8 next_9 t31 t32) w = (
  sem1 .sl PP (Instr.buildSlice T_Sint 1 #[(0, vI (next_9.n : Int))]) w fun (ρ29 : Sl) ω30 =>
  sem1 .sl PP (Builtin.append_ #[T_Sint, T_Sint] T_Sint #[Sl.v out_8, Sl.v ρ29]) ω30 fun (ρ31 : Sl) ω32 =>
  k (emb6 rule_0 next_9 ρ31 t31 (w64 (t32 + 1))) ω32) := A9_2_eq std rule_0 out_8 next_9 t31 t32 w k Q
theorem R9_eq (pr : Prims) (v6 : Value) (w : World) (k : Env → World → Prop) (Q : Exit → Env → World → Prop) : (q13 pr k Q) .ret [(6, v6)] w = (
  Q .ret [(6, v6)] w) := by kernel_rfl
theorem R9_s (v6 : Value) (w : World) (k : Env → World → Prop) (Q : Exit → Env → World → Prop) : (q13 std k Q) .ret [(6, v6)] w = (
  Q .ret [(6, v6)] w) := R9_eq std v6 w k Q
theorem B6_eq (pr : Prims) (rule_0 : Sl) (list_7 : Sl) (out_8 : Sl) (t31 : Int) (t32 : Int) (w : World) (k : Env → World → Prop) (Q : Exit → Env → World → Prop) : B6 pr rule_0 list_7 out_8 t31 t32 w k Q = (
  bif decide (t32 < t31) then (
  pr.sem1 .sl PP (Instr.buildSlice T_Sint 0 #[]) w fun (ρ10 : Sl) ω11 =>
  L9 pr rule_0 out_8 ρ10 t31 t32 list_7 (list_7.n : Int) 0 ω11 (q13 pr k Q))
  else (
  Q (.exit 0) (x0 out_8) w)) := by kernel_rfl
theorem B6_s (rule_0 : Sl) (list_7 : Sl) (out_8 : Sl) (t31 : Int) (t32 : Int) (w : World) (k : Env → World → Prop) (Q : Exit → Env → World → Prop) : B6 std rule_0 list_7 out_8 t31 t32 w k Q = (
  bif decide (t32 < t31) then (
  sem1 .sl PP (Instr.buildSlice T_Sint 0 #[]) w fun (ρ10 : Sl) ω11 =>
  L9 std rule_0 out_8 ρ10 t31 t32 list_7 (list_7.n : Int) 0 ω11 (q13 std k Q))
  else (
  Q (.exit 0) (x0 out_8) w)) := B6_eq std rule_0 list_7 out_8 t31 t32 w k Q
theorem L6_rule (rule_0 : Sl) (list_7 : Sl) (out_8 : Sl) (t31 : Int) (t32 : Int) (w : World) (Q : Exit → Env → World → Prop) (I : Sl → Sl → Int → World → Prop) (μ : Sl → Sl → Int → World → Nat) (h0 : I list_7 out_8 t32 w)
    (h : ∀ (list_7 : Sl) (out_8 : Sl) (t32 : Int) (w' : World), I list_7 out_8 t32 w' → B6 std rule_0 list_7 out_8 t31 t32 w' (fun e2 w2 => ∃ list_7_n out_8_n t32_n, e2 = emb6 rule_0 list_7_n out_8_n t31 t32_n ∧ I list_7_n out_8_n t32_n w2 ∧ μ list_7_n out_8_n t32_n w2 < μ list_7 out_8 t32 w') Q) :
    L6 std rule_0 list_7 out_8 t31 t32 w Q := by
  unfold L6
  refine LoopE.intro (σ := Sl × Sl × Int) (step := S6 std Q) (fun s => emb6 rule_0 s.1 s.2.1 t31 s.2.2) (fun s w => I s.1 s.2.1 s.2.2 w) (fun s w => μ s.1 s.2.1 s.2.2 w) (list_7, out_8, t32) rfl h0 ?_
  intro s w' hI
  have h1 := h s.1 s.2.1 s.2.2 w' hI
  unfold B6 at h1
  simp only [Prod.exists]
  exact h1
theorem A6_0_eq (pr : Prims) (out_8 : Sl) (w : World) (R : Ending → World → Prop) : (q7 pr R) (.exit 0) (x0 out_8) w = (
  R (.returned (Sl.v out_8)) w) := by kernel_rfl
theorem A6_0_s (out_8 : Sl) (w : World) (R : Ending → World → Prop) : (q7 std R) (.exit 0) (x0 out_8) w = (
  R (.returned (Sl.v out_8)) w) := A6_0_eq std out_8 w R
theorem R6_eq (pr : Prims) (v6 : Value) (w : World) (R : Ending → World → Prop) : (q7 pr R) .ret [(6, v6)] w = (
  R (.returned (v6)) w) := by kernel_rfl
theorem R6_s (v6 : Value) (w : World) (R : Ending → World → Prop) : (q7 std R) .ret [(6, v6)] w = (
  R (.returned (v6)) w) := R6_eq std v6 w R
theorem E_eq (pr : Prims) (rule_0 : Sl) (label_1 : Int) (n_2 : Int) (w : World) (R : Ending → World → Prop) : E pr rule_0 label_1 n_2 w R = (
  bif decide (n_2 < 0) then (
  R (.returned (Sl.v Sl.nil)) w)
  else (
  bif decide (n_2 > 8) then (
  R (.returned (Sl.v Sl.nil)) w)
  else (
  bif decide ((rule_0.n : Int) > 20) then (
  R (.returned (Sl.v Sl.nil)) w)
  else (
  pr.call1 .bool PP F.slices_ContainsFunc_____int___int_ #[Sl.v rule_0, .func (.func F.impl_RuleCountsL1) #[] #[]] w fun (ρ0 : Bool) ω1 =>
  bif ρ0 then (
  R (.returned (Sl.v Sl.nil)) ω1)
  else (
  pr.sem1 .sl PP (Instr.buildSlice T_Sint 1 #[(0, vI label_1)]) ω1 fun (ρ2 : Sl) ω3 =>
  pr.sem1 .sl PP (Instr.buildSlice T_Sint 1 #[(0, vI 1)]) ω3 fun (ρ4 : Sl) ω5 =>
  L6 pr rule_0 ρ2 ρ4 n_2 0 ω5 (q7 pr R)))))) := by kernel_rfl
theorem E_s (rule_0 : Sl) (label_1 : Int) (n_2 : Int) (w : World) (R : Ending → World → Prop) : E std rule_0 label_1 n_2 w R = (
  bif decide (n_2 < 0) then (
  R (.returned (Sl.v Sl.nil)) w)
  else (
  bif decide (n_2 > 8) then (
  R (.returned (Sl.v Sl.nil)) w)
  else (
  bif decide ((rule_0.n : Int) > 20) then (
  R (.returned (Sl.v Sl.nil)) w)
  else (
  call1 .bool PP F.slices_ContainsFunc_____int___int_ #[Sl.v rule_0, .func (.func F.impl_RuleCountsL1) #[] #[]] w fun (ρ0 : Bool) ω1 =>
  bif ρ0 then (
  R (.returned (Sl.v Sl.nil)) ω1)
  else (
  sem1 .sl PP (Instr.buildSlice T_Sint 1 #[(0, vI label_1)]) ω1 fun (ρ2 : Sl) ω3 =>
  sem1 .sl PP (Instr.buildSlice T_Sint 1 #[(0, vI 1)]) ω3 fun (ρ4 : Sl) ω5 =>
  L6 std rule_0 ρ2 ρ4 n_2 0 ω5 (q7 std R)))))) := E_eq std rule_0 label_1 n_2 w R
theorem drawsOk : drawsOk PP cfg okD (codeOf Tryz.f17) = true := by kernel_rfl
theorem calls (rule_0 : Sl) (label_1 : Int) (n_2 : Int) {w : World} {R : Ending → World → Prop} (h : E std rule_0 label_1 n_2 w R) : Calls PP F.impl_RuleCounts #[Sl.v rule_0, vI label_1, vI n_2] w R :=
  calls_of noCount mixed drawOk Tryz.func17 rfl (c := cfg) (args := [Sl.v rule_0, vI label_1, vI n_2]) rfl (Nat.le_of_ble_eq_true (by kernel_rfl)) drawsOk h
end impl_RuleCounts

namespace impl_RuleCountsL1
@[reducible] def cfg : Cfg := ⟨11, [], [], [], [2], [], [13, 12, 21, 89, 36, 108, 74, 75, 104, 78, 125], [73, 117, 103, 46, 4, 30, 40]⟩
def E (pr : Prims) (r_0 : Sl) (w : World) (R : Ending → World → Prop) : Prop :=
  wpC pr PP cfg (DD pr) (codeOf Tryz.f51) (retQ Tryz.f51.results.toList R) (argE 0 [Sl.v r_0]) w
theorem E_eq (pr : Prims) (r_0 : Sl) (w : World) (R : Ending → World → Prop) : E pr r_0 w R = (
  bif (r_0.n : Int) == 0 then (
  R (.returned (.bool true)) w)
  else (
  R (.returned (.bool (decide ((r_0.n : Int) > 20)))) w)) := by kernel_rfl
theorem E_s (r_0 : Sl) (w : World) (R : Ending → World → Prop) : E std r_0 w R = (
  bif (r_0.n : Int) == 0 then (
  R (.returned (.bool true)) w)
  else (
  R (.returned (.bool (decide ((r_0.n : Int) > 20)))) w)) := E_eq std r_0 w R
theorem drawsOk : drawsOk PP cfg okD (codeOf Tryz.f51) = true := by kernel_rfl
theorem calls (r_0 : Sl) {w : World} {R : Ending → World → Prop} (h : E std r_0 w R) : Calls PP F.impl_RuleCountsL1 #[Sl.v r_0] w R :=
  calls_of noCount mixed drawOk Tryz.func51 rfl (c := cfg) (args := [Sl.v r_0]) rfl (Nat.le_of_ble_eq_true (by kernel_rfl)) drawsOk h
end impl_RuleCountsL1

namespace impl_RuleCountsL2
@[reducible] def cfg : Cfg := ⟨9, [], [], [], [3], [1], [13, 12, 21, 89, 36, 108, 74, 75, 104, 78, 125], [73, 117, 103, 46, 4, 30, 40]⟩
def E (pr : Prims) (r_0 : Sl) (t1 : Addr) (w : World) (R : Ending → World → Prop) : Prop :=
  wpC pr PP cfg (DD pr) (codeOf Tryz.f53) (retQ Tryz.f53.results.toList R) (argE 0 [Sl.v r_0, .pointer (some t1)]) w
theorem E_eq (pr : Prims) (r_0 : Sl) (t1 : Addr) (w : World) (R : Ending → World → Prop) : E pr r_0 t1 w R = (
  pr.idxK 1 r_0 0 fun (a0 : Addr) =>
  pr.load1 (.int .i64) a0 w fun (ξ1 : Int) =>
  pr.load1 (.int .i64) t1 w fun (ξ2 : Int) =>
  pr.drewAll w fun ω3 =>
  R (.returned (.bool (ξ1 == ξ2))) ω3) := by kernel_rfl
theorem E_s (r_0 : Sl) (t1 : Addr) (w : World) (R : Ending → World → Prop) : E std r_0 t1 w R = (
  idxK 1 r_0 0 fun (a0 : Addr) =>
  load1 (.int .i64) a0 w fun (ξ1 : Int) =>
  load1 (.int .i64) t1 w fun (ξ2 : Int) =>
  drewAll w fun ω3 =>
  R (.returned (.bool (ξ1 == ξ2))) ω3) := E_eq std r_0 t1 w R
theorem drawsOk : drawsOk PP cfg okD (codeOf Tryz.f53) = true := by kernel_rfl
theorem calls (r_0 : Sl) (t1 : Addr) {w : World} {R : Ending → World → Prop} (h : E std r_0 t1 w R) : Calls PP F.impl_RuleCountsL2 #[Sl.v r_0, .pointer (some t1)] w R :=
  calls_of noCount mixed drawOk Tryz.func53 rfl (c := cfg) (args := [Sl.v r_0, .pointer (some t1)]) rfl (Nat.le_of_ble_eq_true (by kernel_rfl)) drawsOk h
end impl_RuleCountsL2

namespace spec_l15Step
@[reducible] def cfg : Cfg := ⟨40, [(6, [0, 1, 5, 6, 7]), (3, [0, 1, 5, 6])], [(3, [0, 1, 5, 6, 7]), (2, [0, 1, 5, 6]), (1, [0, 1, 5, 6]), (0, [5])], [], [4], [8], [13, 12, 21, 89, 36, 108, 74, 75, 104, 78, 125], [73, 117, 103, 46, 4, 30, 40]⟩
def q2 (pr : Prims) (R : Ending → World → Prop) : Exit → Env → World → Prop := fun ex e w => normQ ex (fun e w => contE pr cfg (sub (codeOf Tryz.f54) [1, 1, 1]) (fun e w => wpC pr PP cfg (DD pr) (sub (codeOf Tryz.f54) [1, 1, 1]) (retQ Tryz.f54.results.toList R) e w) e w) (retQ Tryz.f54.results.toList R) e w
def q3 (pr : Prims) (R : Ending → World → Prop) : Exit → Env → World → Prop := fun ex e w => blockQ ex 0 (q2 pr R) e w
def q4 (pr : Prims) (k : Env → World → Prop) (Q : Exit → Env → World → Prop) : Exit → Env → World → Prop := fun ex e w => normQ ex (fun e w => contE pr cfg (sub (codeOf Tryz.f54) [1, 1, 0, 1, 0, 0, 1, 1]) (fun e w => wpC pr PP cfg (DD pr) (sub (codeOf Tryz.f54) [1, 1, 0, 1, 0, 0, 1, 1]) (fun ex e w => normQ ex (fun e' w' => k (Env.restr e' (lookN cfg.loops (keyOf (sub (codeOf Tryz.f54) [1, 1, 0, 1, 0, 0])))) w') Q e w) e w) e w) (fun ex e w => normQ ex (fun e' w' => k (Env.restr e' (lookN cfg.loops (keyOf (sub (codeOf Tryz.f54) [1, 1, 0, 1, 0, 0])))) w') Q e w) e w
def q5 (pr : Prims) (k : Env → World → Prop) (Q : Exit → Env → World → Prop) : Exit → Env → World → Prop := fun ex e w => blockQ ex 1 (q4 pr k Q) e w
def q6 (pr : Prims) (k : Env → World → Prop) (Q : Exit → Env → World → Prop) : Exit → Env → World → Prop := fun ex e w => blockQ ex 2 (q5 pr k Q) e w
def emb3 (rule_0 : Sl) (labels_1 : Sl) (out_5 : Sl) (k_6 : Int) : Env := [(0, Sl.v rule_0), (1, Sl.v labels_1), (5, Sl.v out_5), (6, vI k_6)]
def emb6 (rule_0 : Sl) (labels_1 : Sl) (out_5 : Sl) (k_6 : Int) (i_7 : Int) : Env := [(0, Sl.v rule_0), (1, Sl.v labels_1), (5, Sl.v out_5), (6, vI k_6), (7, vI i_7)]
def x2 (rule_0 : Sl) (labels_1 : Sl) (out_5 : Sl) (k_6 : Int) : Env := [(0, Sl.v rule_0), (1, Sl.v labels_1), (5, Sl.v out_5), (6, vI k_6)]
def x0 (out_5 : Sl) : Env := [(5, Sl.v out_5)]
def S6 (pr : Prims) (Q : Exit → Env → World → Prop) : (Env → World → Prop) → Env → World → Prop := fun k e w => wpC pr PP cfg (DD pr) (sub (codeOf Tryz.f54) [1, 1, 0, 1, 0, 0, 1, 0, 0, 1, 0, 0]) (fun ex e w => normQ ex (fun e' w' => k (Env.restr e' (lookN cfg.loops (keyOf (sub (codeOf Tryz.f54) [1, 1, 0, 1, 0, 0, 1, 0, 0, 1, 0, 0])))) w') Q e w) e w
def S3 (pr : Prims) (Q : Exit → Env → World → Prop) : (Env → World → Prop) → Env → World → Prop := fun k e w => wpC pr PP cfg (DD pr) (sub (codeOf Tryz.f54) [1, 1, 0, 1, 0, 0]) (fun ex e w => normQ ex (fun e' w' => k (Env.restr e' (lookN cfg.loops (keyOf (sub (codeOf Tryz.f54) [1, 1, 0, 1, 0, 0])))) w') Q e w) e w
def B6 (pr : Prims) (rule_0 : Sl) (labels_1 : Sl) (out_5 : Sl) (k_6 : Int) (i_7 : Int) (w : World) (k : Env → World → Prop) (Q : Exit → Env → World → Prop) : Prop :=
  S6 pr Q k (emb6 rule_0 labels_1 out_5 k_6 i_7) w
def L6 (pr : Prims) (rule_0 : Sl) (labels_1 : Sl) (out_5 : Sl) (k_6 : Int) (i_7 : Int) (w : World) (Q : Exit → Env → World → Prop) : Prop :=
  pr.loop (S6 pr Q) (emb6 rule_0 labels_1 out_5 k_6 i_7) w
def B3 (pr : Prims) (rule_0 : Sl) (labels_1 : Sl) (out_5 : Sl) (k_6 : Int) (w : World) (k : Env → World → Prop) (Q : Exit → Env → World → Prop) : Prop :=
  S3 pr Q k (emb3 rule_0 labels_1 out_5 k_6) w
def L3 (pr : Prims) (rule_0 : Sl) (labels_1 : Sl) (out_5 : Sl) (k_6 : Int) (w : World) (Q : Exit → Env → World → Prop) : Prop :=
  pr.loop (S3 pr Q) (emb3 rule_0 labels_1 out_5 k_6) w
def E (pr : Prims) (rule_0 : Sl) (labels_1 : Sl) (w : World) (R : Ending → World → Prop) : Prop :=
  wpC pr PP cfg (DD pr) (codeOf Tryz.f54) (retQ Tryz.f54.results.toList R) (argE 0 [Sl.v rule_0, Sl.v labels_1]) w
theorem B6_eq (pr : Prims) (rule_0 : Sl) (labels_1 : Sl) (out_5 : Sl) (k_6 : Int) (i_7 : Int) (w : World) (k : Env → World → Prop) (Q : Exit → Env → World → Prop) : B6 pr rule_0 labels_1 out_5 k_6 i_7 w k Q = (
  bif decide (i_7 < (rule_0.n : Int)) then (
  pr.idxK 1 rule_0 i_7 fun (a7 : Addr) =>
  pr.load1 .sl a7 w fun (ξ8 : Sl) =>
  pr.idxK 1 ξ8 0 fun (a9 : Addr) =>
  pr.load1 (.int .i64) a9 w fun (ξ10 : Int) =>
  pr.idxK 1 labels_1 k_6 fun (a11 : Addr) =>
  pr.load1 (.int .i64) a11 w fun (ξ12 : Int) =>
  pr.drewAll w fun ω13 =>
  bif ξ10 == ξ12 then (
  pr.idxK 1 rule_0 i_7 fun (a14 : Addr) =>
  pr.load1 .sl a14 ω13 fun (ξ15 : Sl) =>
  pr.cutK 1 ξ15 (some 1) none fun (s16 : Sl) =>
  pr.sem1 .sl PP (Builtin.append_ #[T_Sint, T_Sint] T_Sint #[Sl.v out_5, Sl.v s16]) ω13 fun (ρ17 : Sl) ω18 =>
  Q (.exit 2) (x2 rule_0 labels_1 ρ17 k_6) ω18)
  else (
  k (emb6 rule_0 labels_1 out_5 k_6 (w64 (i_7 + 1))) ω13))
  else (
  Q (.exit 2) (x2 rule_0 labels_1 out_5 k_6) w)) := by kernel_rfl
theorem B6_s (rule_0 : Sl) (labels_1 : Sl) (out_5 : Sl) (k_6 : Int) (i_7 : Int) (w : World) (k : Env → World → Prop) (Q : Exit → Env → World → Prop) : B6 std rule_0 labels_1 out_5 k_6 i_7 w k Q = (
  bif decide (i_7 < (rule_0.n : Int)) then (
  idxK 1 rule_0 i_7 fun (a7 : Addr) =>
  load1 .sl a7 w fun (ξ8 : Sl) =>
  idxK 1 ξ8 0 fun (a9 : Addr) =>
  load1 (.int .i64) a9 w fun (ξ10 : Int) =>
  idxK 1 labels_1 k_6 fun (a11 : Addr) =>
  load1 (.int .i64) a11 w fun (ξ12 : Int) =>
  drewAll w fun ω13 =>
  bif ξ10 == ξ12 then (
  idxK 1 rule_0 i_7 fun (a14 : Addr) =>
  load1 .sl a14 ω13 fun (ξ15 : Sl) =>
  cutK 1 ξ15 (some 1) none fun (s16 : Sl) =>
  sem1 .sl PP (Builtin.append_ #[T_Sint, T_Sint] T_Sint #[Sl.v out_5, Sl.v s16]) ω13 fun (ρ17 : Sl) ω18 =>
  Q (.exit 2) (x2 rule_0 labels_1 ρ17 k_6) ω18)
  else (
  k (emb6 rule_0 labels_1 out_5 k_6 (w64 (i_7 + 1))) ω13))
  else (
  Q (.exit 2) (x2 rule_0 labels_1 out_5 k_6) w)) := B6_eq std rule_0 labels_1 out_5 k_6 i_7 w k Q
theorem L6_rule (rule_0 : Sl) (labels_1 : Sl) (out_5 : Sl) (k_6 : Int) (i_7 : Int) (w : World) (Q : Exit → Env → World → Prop) (I : Sl → Int → World → Prop) (μ : Sl → Int → World → Nat) (h0 : I out_5 i_7 w)
    (h : ∀ (out_5 : Sl) (i_7 : Int) (w' : World), I out_5 i_7 w' → B6 std rule_0 labels_1 out_5 k_6 i_7 w' (fun e2 w2 => ∃ out_5_n i_7_n, e2 = emb6 rule_0 labels_1 out_5_n k_6 i_7_n ∧ I out_5_n i_7_n w2 ∧ μ out_5_n i_7_n w2 < μ out_5 i_7 w') Q) :
    L6 std rule_0 labels_1 out_5 k_6 i_7 w Q := by
  unfold L6
  refine LoopE.intro (σ := Sl × Int) (step := S6 std Q) (fun s => emb6 rule_0 labels_1 s.1 k_6 s.2) (fun s w => I s.1 s.2 w) (fun s w => μ s.1 s.2 w) (out_5, i_7) rfl h0 ?_
  intro s w' hI
  have h1 := h s.1 s.2 w' hI
  unfold B6 at h1
  simp only [Prod.exists]
  exact h1
theorem A6_2_eq (pr : Prims) (rule_0 : Sl) (labels_1 : Sl) (out_5 : Sl) (k_6 : Int) (w : World) (k : Env → World → Prop) (Q : Exit → Env → World → Prop) : (q6 pr k Q) (.exit 2) (x2 rule_0 labels_1 out_5 k_6) w = (
  k (emb3 rule_0 labels_1 out_5 (w64 (k_6 + 1))) w) := by kernel_rfl
theorem A6_2_s (rule_0 : Sl) (labels_1 : Sl) (out_5 : Sl) (k_6 : Int) (w : World) (k : Env → World → Prop) (Q : Exit → Env → World → Prop) : (q6 std k Q) (.exit 2) (x2 rule_0 labels_1 out_5 k_6) w = (
  k (emb3 rule_0 labels_1 out_5 (w64 (k_6 + 1))) w) := A6_2_eq std rule_0 labels_1 out_5 k_6 w k Q
theorem B3_eq (pr : Prims) (rule_0 : Sl) (labels_1 : Sl) (out_5 : Sl) (k_6 : Int) (w : World) (k : Env → World → Prop) (Q : Exit → Env → World → Prop) : B3 pr rule_0 labels_1 out_5 k_6 w k Q = (
  bif decide (k_6 < (labels_1.n : Int)) then (
  L6 pr rule_0 labels_1 out_5 k_6 0 w (q6 pr k Q))
  else (
  Q (.exit 0) (x0 out_5) w)) := by kernel_rfl
theorem B3_s (rule_0 : Sl) (labels_1 : Sl) (out_5 : Sl) (k_6 : Int) (w : World) (k : Env → World → Prop) (Q : Exit → Env → World → Prop) : B3 std rule_0 labels_1 out_5 k_6 w k Q = (
  bif decide (k_6 < (labels_1.n : Int)) then (
  L6 std rule_0 labels_1 out_5 k_6 0 w (q6 std k Q))
  else (
  Q (.exit 0) (x0 out_5) w)) := B3_eq std rule_0 labels_1 out_5 k_6 w k Q
theorem L3_rule (rule_0 : Sl) (labels_1 : Sl) (out_5 : Sl) (k_6 : Int) (w : World) (Q : Exit → Env → World → Prop) (I : Sl → Int → World → Prop) (μ : Sl → Int → World → Nat) (h0 : I out_5 k_6 w)
    (h : ∀ (out_5 : Sl) (k_6 : Int) (w' : World), I out_5 k_6 w' → B3 std rule_0 labels_1 out_5 k_6 w' (fun e2 w2 => ∃ out_5_n k_6_n, e2 = emb3 rule_0 labels_1 out_5_n k_6_n ∧ I out_5_n k_6_n w2 ∧ μ out_5_n k_6_n w2 < μ out_5 k_6 w') Q) :
    L3 std rule_0 labels_1 out_5 k_6 w Q := by
  unfold L3
  refine LoopE.intro (σ := Sl × Int) (step := S3 std Q) (fun s => emb3 rule_0 labels_1 s.1 s.2) (fun s w => I s.1 s.2 w) (fun s w => μ s.1 s.2 w) (out_5, k_6) rfl h0 ?_
  intro s w' hI
  have h1 := h s.1 s.2 w' hI
  unfold B3 at h1
  simp only [Prod.exists]
  exact h1
theorem A3_0_eq (pr : Prims) (out_5 : Sl) (w : World) (R : Ending → World → Prop) : (q3 pr R) (.exit 0) (x0 out_5) w = (
  R (.returned (Sl.v out_5)) w) := by kernel_rfl
theorem A3_0_s (out_5 : Sl) (w : World) (R : Ending → World → Prop) : (q3 std R) (.exit 0) (x0 out_5) w = (
  R (.returned (Sl.v out_5)) w) := A3_0_eq std out_5 w R
theorem E_eq (pr : Prims) (rule_0 : Sl) (labels_1 : Sl) (w : World) (R : Ending → World → Prop) : E pr rule_0 labels_1 w R = (
  pr.sem1 .sl PP (Instr.buildSlice T_Sint 0 #[]) w fun (ρ0 : Sl) ω1 =>
  L3 pr rule_0 labels_1 ρ0 0 ω1 (q3 pr R)) := by kernel_rfl
theorem E_s (rule_0 : Sl) (labels_1 : Sl) (w : World) (R : Ending → World → Prop) : E std rule_0 labels_1 w R = (
  sem1 .sl PP (Instr.buildSlice T_Sint 0 #[]) w fun (ρ0 : Sl) ω1 =>
  L3 std rule_0 labels_1 ρ0 0 ω1 (q3 std R)) := E_eq std rule_0 labels_1 w R
theorem drawsOk : drawsOk PP cfg okD (codeOf Tryz.f54) = true := by kernel_rfl
theorem calls (rule_0 : Sl) (labels_1 : Sl) {w : World} {R : Ending → World → Prop} (h : E std rule_0 labels_1 w R) : Calls PP F.spec_l15Step #[Sl.v rule_0, Sl.v labels_1] w R :=
  calls_of noCount mixed drawOk Tryz.func54 rfl (c := cfg) (args := [Sl.v rule_0, Sl.v labels_1]) rfl (Nat.le_of_ble_eq_true (by kernel_rfl)) drawsOk h
end spec_l15Step

end Go.Proofs.YteplokddaebbeaaGreat

/- RuleCounts: both texts, and the law. -/
namespace Go.Proofs.YteplokddaebbeaaGreat
open Go Go.RowKit
set_option maxRecDepth 100000

def headIs (x : Int) (r : List Int) : Bool := r.getD 0 0 == x
/-- What a rule makes of a label. -/
def ruleV (R : List (List Int)) (x : Int) : List Int := if R.findIdx (headIs x) < R.length then (R.getD (R.findIdx (headIs x)) []).drop 1 else []
def stepR (R : List (List Int)) (L : List Int) : List Int := L.flatMap (ruleV R)
def itR (R : List (List Int)) (x : Int) : Nat → List Int
  | 0 => [x]
  | k + 1 => stepR R (itR R x k)
structure RuleOk (R : List (List Int)) (n : Int) : Prop where
  len : R.length ≤ 20
  row : ∀ r ∈ R, r ≠ [] ∧ r.length ≤ 20
  lo : 0 ≤ n
  hi : n ≤ 8
def Small (R : List (List Int)) (x : Int) (m : Nat) : Prop := ∀ k, k < m → (itR R x k).length ≤ 5000
def lenR (R : List (List Int)) (x : Int) (k : Nat) : Int := ((itR R x k).length : Int)
def lensR (R : List (List Int)) (x : Int) (m : Nat) : List Int := (List.range m).map (lenR R x)
theorem lensR_succ (R : List (List Int)) (x : Int) (m : Nat) : lensR R x (m + 1) = lensR R x m ++ [lenR R x m] := by simp [lensR, List.range_succ]
theorem lensR_len (R : List (List Int)) (x : Int) (m : Nat) : (lensR R x m).length = m := by simp [lensR]
open Classical in
noncomputable def RuleCountsV (R : List (List Int)) (x n : Int) : List Int := if RuleOk R n ∧ Small R x (n.toNat + 1) then lensR R x (n.toNat + 1) else []
theorem RuleCountsV_len (R : List (List Int)) (x n : Int) : (RuleCountsV R x n).length < 2^38 := by
  unfold RuleCountsV
  split
  · rename_i h
    have := h.1.lo; have := h.1.hi
    rw [lensR_len]; omega
  · simp
theorem length_flatMap_le' {α β : Type} (l : List α) (f : α → List β) (c : Nat) (h : ∀ x ∈ l, (f x).length ≤ c) : (l.flatMap f).length ≤ l.length * c := by
  induction l with
  | nil => simp
  | cons x r ih =>
    have h1 := h x (by simp)
    have h2 := ih (fun p hp => h p (by simp [hp]))
    rw [List.flatMap_cons, List.length_append, List.length_cons, Nat.succ_mul]; omega
theorem ruleV_len {R : List (List Int)} {n : Int} (h : RuleOk R n) (x : Int) : (ruleV R x).length ≤ 20 := by
  unfold ruleV
  split
  · rename_i h5
    rw [getD_SS h5, List.length_drop]
    have := (h.row _ (List.getElem_mem h5)).2
    omega
  · simp
theorem stepR_take_len {R : List (List Int)} {n : Int} (h : RuleOk R n) (L : List Int) (j : Nat) (hL : L.length ≤ 5000) : ((L.take j).flatMap (ruleV R)).length ≤ 100000 := by
  have h1 := length_flatMap_le' (L.take j) (ruleV R) 20 (fun x _ => ruleV_len h x)
  rw [List.length_take] at h1
  omega
theorem flat_take_mono {α β : Type} (L : List α) (f : α → List β) (j : Nat) : ((L.take j).flatMap f).length ≤ (L.flatMap f).length := by
  conv => rhs; rw [← List.take_append_drop j L, List.flatMap_append, List.length_append]
  omega
theorem flat_snoc1 {α β : Type} (l : List α) (x : α) (f : α → List β) : (l ++ [x]).flatMap f = l.flatMap f ++ f x := by simp
theorem Small.succ {R x m} (h : Small R x m) (h1 : (itR R x m).length ≤ 5000) : Small R x (m + 1) := fun k hk => by
  by_cases e : k = m
  · subst e; exact h1
  · exact h k (by omega)
theorem ruleV_at {R : List (List Int)} {x : Int} {i : Nat} (hi : i < R.length) (h1 : headIs x R[i] = true) (h2 : ∀ j (hj : j < R.length), j < i → headIs x R[j] = false) : ruleV R x = R[i].drop 1 := by
  have : R.findIdx (headIs x) = i := by rw [List.findIdx_eq hi]; exact ⟨h1, fun j hj => h2 j (by omega) hj⟩
  rw [ruleV, this, if_pos hi, getD_SS hi]
theorem ruleV_none {R : List (List Int)} {x : Int} (h : ∀ j (hj : j < R.length), headIs x R[j] = false) : ruleV R x = [] := by
  rw [ruleV, if_neg]
  intro h5
  rw [List.findIdx_lt_length] at h5
  obtain ⟨r, h6, h7⟩ := h5
  obtain ⟨i, hi, rfl⟩ := List.getElem_of_mem h6
  rw [h i hi] at h7; cases h7
theorem tail_cut {w : World} {r : Sl} {L : List Int} (h : RowI w r L) (hne : L ≠ []) {K : Sl → Prop} (hK : ∀ t, RowI w t (L.drop 1) → K t) : cutK 1 r (some 1) none K := by
  have hn : r.n = L.length := by have := h.n; simpa using this
  have h0 : 0 < L.length := List.length_pos_iff.2 hne
  refine Row.cut h (by simp) (by simp <;> omega) (by simp <;> omega) fun t ht => hK t ?_
  have e2 : (List.take ((none : Option Int).getD (r.n : Int)).toNat (L.map vI)).drop ((some (1 : Int)).getD 0).toNat = (L.drop 1).map vI := by
    rw [hn]; simp [List.map_drop, List.take_of_length_le]
  rw [e2] at ht
  exact ht

/-! ### spec -/
theorem c_l15Step {w : World} {a b : Sl} {R : List (List Int)} {L : List Int} {n : Int} (ha : RowSS w a R) (hR : RuleOk R n) (hb0 : RowI w b L) (hL : L.length ≤ 5000) :
    Calls PP F.spec_l15Step #[a.v, b.v] w fun e w' => ∃ s : Sl, e = .returned s.v ∧ OwnI w' w.heap.size s (stepR R L) ∧ Below w.heap.size w w' := by
  have han := ha.n
  have hbn : b.n = L.length := by have := hb0.n; simpa using this
  have hR20 := hR.len
  refine spec_l15Step.calls a b ?_
  rw [spec_l15Step.E_s]
  refine lit0 oneInt (B := w.heap.size) (Nat.le_refl _) ?_
  intro o w1 ho hg1 _
  have hb1 := below_of_grow hg1
  refine spec_l15Step.L3_rule _ _ _ _ _ _ (I := fun o k w' => 0 ≤ k ∧ k ≤ L.length ∧ Below w.heap.size w w' ∧ OwnI w' w.heap.size o ((L.take k.toNat).flatMap (ruleV R))) (μ := fun _ k _ => (L.length - k).toNat)
    ⟨by omega, by omega, hb1, by simpa [OwnI] using ho⟩ ?_
  rintro o k w' ⟨hk0, hk, hb, ho⟩
  rw [spec_l15Step.B3_s, hbn]
  refine bif_dec (fun h3 => ?_) (fun h3 => ?_)
  · have hlt : k.toNat < L.length := by omega
    have hsn : (L.take (k.toNat + 1)).flatMap (ruleV R) = (L.take k.toNat).flatMap (ruleV R) ++ ruleV R L[k.toNat] := by
      rw [List.take_succ_eq_append_getElem hlt, flat_snoc1]
    have hf := stepR_take_len hR L k.toNat hL
    have e1 : (k + 1).toNat = k.toNat + 1 := by omega
    refine spec_l15Step.L6_rule _ _ _ _ _ _ _ (I := fun o' i w2 => o' = o ∧ 0 ≤ i ∧ i ≤ R.length ∧ Below w.heap.size w w2 ∧ OwnI w2 w.heap.size o ((L.take k.toNat).flatMap (ruleV R)) ∧ ∀ j (hj : j < R.length), j < i.toNat → headIs L[k.toNat] R[j] = false) (μ := fun _ i _ => (R.length - i).toNat)
      ⟨rfl, by omega, by omega, hb, ho, fun j _ hj => by simp at hj⟩ ?_
    rintro o' i w2 ⟨rfl, hi0, hi, hb2, ho2, hall⟩
    rw [spec_l15Step.B6_s, han]
    refine bif_dec (fun h5 => ?_) (fun h5 => ?_)
    · have hlt2 : i.toNat < R.length := by omega
      obtain ⟨hne, hl20⟩ := hR.row _ (List.getElem_mem hlt2)
      have hpos : 0 < R[i.toNat].length := List.length_pos_iff.2 hne
      refine RowSS.get (ha.grow hb2) hi0 (by omega) fun r hr => ?_
      rw [getD_SS hlt2] at hr
      refine RowI.get hr (by omega) (by omega) ?_
      refine RowI.get (hb0.grow hb2) hk0 (by omega) ?_
      rw [getD_lt hlt]
      refine drew_intro fun w3 hd => ?_
      have hb3 := hb2.trans (hd.below _)
      have ho3 := ho2.heap hd.heap'
      refine bif_intro (fun h7 => ?_) (fun h7 => ?_)
      · refine RowSS.get (ha.grow hb3) hi0 (by omega) fun r hr => ?_
        rw [getD_SS hlt2] at hr
        refine tail_cut hr hne fun t ht => ?_
        refine append_row oneInt ho3 hb3.size ht (fun v hv => by obtain ⟨x, _, rfl⟩ := List.mem_map.1 hv; exact One.int x) (by rw [List.length_map, List.length_map, List.length_drop]; omega) ?_
        intro o4 w4 ho4 hg4 _ _
        rw [spec_l15Step.A6_2_s]
        refine ⟨o4, k + 1, by rw [w64_succ hk0 (by omega)], ⟨by omega, by omega, hb3.grown hg4 hb3.size (fun g hg => (ho3.lt g hg).1), ?_⟩, by omega⟩
        rw [e1, hsn, ruleV_at hlt2 (by simpa [headIs] using h7) hall]
        rw [← List.map_append] at ho4
        exact ho4
      · refine ⟨o', i + 1, by rw [w64_succ hi0 (by omega)], ⟨rfl, by omega, by omega, hb3, ho3, fun j hj1 hj => ?_⟩, by omega⟩
        by_cases e : j = i.toNat
        · subst e; simpa [headIs] using h7
        · exact hall j hj1 (by omega)
    · rw [spec_l15Step.A6_2_s]
      refine ⟨o', k + 1, by rw [w64_succ hk0 (by omega)], ⟨by omega, by omega, hb2, ?_⟩, by omega⟩
      rw [e1, hsn, ruleV_none (fun j hj => hall j hj (by omega)), List.append_nil]
      exact ho2
  · rw [spec_l15Step.A3_0_s]
    rw [show k.toNat = L.length by omega, List.take_length] at ho
    exact ⟨o, rfl, ho, hb⟩
theorem c_specRuleCounts0 {w : World} {a : Sl} {R : List (List Int)} (ha : RowSS w a R) (hRl : R.length < 2^38) (ht : tot R < 2^37) (x n : Int) :
    Calls PP F.spec_RuleCounts #[a.v, vI x, vI n] w fun e w' => ∃ s : Sl, e = .returned s.v ∧ OwnI w' w.heap.size s (RuleCountsV R x n) ∧ Below w.heap.size w w' := by
  have han := ha.n
  refine spec_RuleCounts.calls a x n ?_
  rw [spec_RuleCounts.E_s]
  refine lit0 oneInt (B := w.heap.size) (Nat.le_refl _) ?_
  intro o w1 ho hg1 _
  have hb1 := below_of_grow hg1
  have no : ∀ h : ¬ RuleOk R n, RuleCountsV R x n = [] := fun h => by rw [RuleCountsV, if_neg (fun hh => h hh.1)]
  refine spec_RuleCounts.L3_rule _ _ _ _ _ _ _ (I := fun k w' => w' = w1 ∧ 0 ≤ k ∧ k ≤ R.length ∧ ∀ j (hj : j < R.length), j < k.toNat → R[j] ≠ [] ∧ R[j].length ≤ 20 ∧ R.length ≤ 20) (μ := fun k _ => (R.length - k).toNat)
    ⟨rfl, by omega, by omega, fun j _ hj => by simp at hj⟩ ?_
  rintro k w' ⟨rfl, hk0, hk, hall⟩
  rw [spec_RuleCounts.B3_s, han]
  refine bif_dec (fun h3 => ?_) (fun h3 => ?_)
  · have hlt : k.toNat < R.length := by omega
    refine RowSS.get (ha.grow hb1) hk0 (by omega) fun r hr => ?_
    rw [getD_SS hlt] at hr
    have hrn : r.n = R[k.toNat].length := by have := hr.n; simpa using this
    simp only [hrn]
    refine bif_intro (fun h4 => ?_) (fun h4 => ?_)
    · rw [spec_RuleCounts.R3_s]
      have h5 : R[k.toNat] = [] := List.eq_nil_of_length_eq_zero (by simpa using h4)
      exact ⟨o, rfl, by rw [no fun hh => (hh.row _ (List.getElem_mem hlt)).1 h5]; exact ho, hb1⟩
    · have h4 : R[k.toNat] ≠ [] := fun hh => by rw [hh] at h4; simp at h4
      refine RowSS.get (ha.grow hb1) hk0 (by omega) fun r hr => ?_
      rw [getD_SS hlt] at hr
      have hrn : r.n = R[k.toNat].length := by have := hr.n; simpa using this
      simp only [hrn]
      refine bif_dec (fun h5 => ?_) (fun h5 => ?_)
      · rw [spec_RuleCounts.R3_s]
        exact ⟨o, rfl, by rw [no fun hh => by have := (hh.row _ (List.getElem_mem hlt)).2; omega]; exact ho, hb1⟩
      · refine bif_dec (fun h6 => ?_) (fun h6 => ?_)
        · rw [spec_RuleCounts.R3_s]
          exact ⟨o, rfl, by rw [no fun hh => by have := hh.len; omega]; exact ho, hb1⟩
        · refine ⟨k + 1, by rw [w64_succ hk0 (by omega)], ⟨trivial, by omega, by omega, fun j hj1 hj => ?_⟩, by omega⟩
          by_cases e : j = k.toNat
          · subst e; exact ⟨h4, by omega, by omega⟩
          · exact hall j hj1 (by omega)
  · rw [spec_RuleCounts.A3_0_s]
    refine Pure.pcall1 (s := .bool) (c_l1In n 0 8) ?_
    refine bif_intro (fun h => ?_) (fun h => ?_)
    · have h : ¬ (0 ≤ n ∧ n ≤ 8) := by simp at h; omega
      exact ⟨o, rfl, by rw [no fun hh => h ⟨hh.lo, hh.hi⟩]; exact ho, hb1⟩
    have hn : 0 ≤ n ∧ n ≤ 8 := by simpa using h
    have hR : RuleOk R n := by
      refine ⟨?_, fun r hr => ?_, hn.1, hn.2⟩
      · by_cases h0 : R.length = 0
        · omega
        · exact (hall 0 (by omega) (by omega)).2.2
      · obtain ⟨i, hi, rfl⟩ := List.getElem_of_mem hr
        have := hall i hi (by omega)
        exact ⟨this.1, this.2.1⟩
    obtain ⟨n, rfl⟩ : ∃ m : Nat, n = m := ⟨n.toNat, by omega⟩
    refine lit1 oneInt (B := w'.heap.size) (Nat.le_refl _) (One.int x) ?_
    intro lb w2 hlb hg2 _
    have hb2 := hb1.grown hg2 hb1.size (by simp)
    have ho2 : OwnI w2 w.heap.size o [] := Own.grow ho (below_of_grow hg2)
    have hlb' : OwnI w2 w'.heap.size lb (itR R x 0) := hlb
    refine spec_RuleCounts.L11_rule _ _ _ _ _ _ _ (I := fun o lb k w3 => 0 ≤ k ∧ k ≤ (n + 1 : Nat) ∧ Below w.heap.size w w3 ∧ OwnI w3 w.heap.size o (lensR R x k.toNat) ∧ Small R x k.toNat ∧ (k ≤ n → ∃ C, OwnI w3 C lb (itR R x k.toNat) ∧ ∀ g, o.blk = some g → g < C)) (μ := fun _ _ k _ => ((n + 1 : Nat) - k).toNat)
      ⟨by omega, by omega, hb2, by simpa [lensR] using ho2, fun j hj => by simp at hj, fun _ => ⟨_, hlb', fun g hg => (ho.lt g hg).2⟩⟩ ?_
    rintro o lb k w3 ⟨hk0, hk, hb, ho, hsm, hlev⟩
    rw [spec_RuleCounts.B11_s]
    refine bif_dec (fun h3 => ?_) (fun h3 => ?_)
    · obtain ⟨C, hlb, hC⟩ := hlev h3
      have hln : lb.n = (itR R x k.toNat).length := by have := hlb.n; simpa using this
      rw [hln]
      have e1 : (k + 1).toNat = k.toNat + 1 := by omega
      refine bif_dec (fun h4 => ?_) (fun h4 => ?_)
      · refine lit0 oneInt (B := w.heap.size) hb.size ?_
        intro z w4 hz hg4 _
        rw [spec_RuleCounts.R11_s]
        refine ⟨z, rfl, ?_, hb.grown hg4 hb.size (by simp)⟩
        rw [RuleCountsV, if_neg (fun hh => by have := hh.2 k.toNat (by omega); omega)]
        exact hz
      · have hsm' := hsm.succ (m := k.toNat) (by omega)
        refine append_int ho hb.size (by rw [lensR_len]; omega) ?_
        intro o' w4 ho4 hg4 _
        have hb4 := hb.grown hg4 hb.size (fun g hg => (ho.lt g hg).1)
        have hlb4 : OwnI w4 C lb (itR R x k.toNat) := Own.keeps hlb (keeps_grown hg4) (fun g hg hg2 => by have := hC g hg2; have := (hlb.lt g hg).1; omega)
        refine bif_dec (fun h5 => ?_) (fun h5 => ?_)
        · refine (c_l15Step (ha.grow hb4) hR hlb4.row (by omega)).mono ?_
          rintro e w5 ⟨s, rfl, hs, hb5⟩
          refine ⟨s, rfl, ?_⟩
          refine ⟨o', s, k + 1, by rw [w64_succ hk0 (by omega)], ⟨by omega, by omega, hb4.trans (hb5.mono hb4.size), ?_, ?_, fun _ => ⟨_, ?_, fun g hg => (ho4.lt g hg).2⟩⟩, by omega⟩
          · rw [e1, lensR_succ]; exact Own.grow ho4 hb5
          · rw [e1]; exact hsm'
          · rw [e1]; exact hs
        · refine ⟨o', lb, k + 1, by rw [w64_succ hk0 (by omega)], ⟨by omega, by omega, hb4, ?_, ?_, fun _ => by omega⟩, by omega⟩
          · rw [e1, lensR_succ]; exact ho4
          · rw [e1]; exact hsm'
    · rw [spec_RuleCounts.A11_2_s]
      have e1 : k.toNat = n + 1 := by omega
      rw [e1] at ho hsm
      exact ⟨o, rfl, by rw [RuleCountsV, if_pos ⟨hR, by rw [Int.toNat_natCast]; exact hsm⟩, Int.toNat_natCast]; exact ho, hb⟩
theorem c_specRuleCounts {w : World} {a : Sl} {R : List (List Int)} (ha : RowSS w a R) (hRl : R.length < 2^38) (ht : tot R < 2^37) (x n : Int) :
    Calls PP F.spec_RuleCounts #[a.v, vI x, vI n] w fun e w' => ∃ s : Sl, e = .returned s.v ∧ RowI w' s (RuleCountsV R x n) ∧ Below w.heap.size w w' :=
  (c_specRuleCounts0 ha hRl ht x n).mono fun e w' ⟨s, he, ho, hb⟩ => ⟨s, he, ho.row, hb⟩

/-! ### impl -/
def badRow (r : List Int) : Bool := decide (r.length = 0) || decide (r.length > 20)
theorem c_ruleL1 {w0 : World} {r : Sl} {L : List Int} (hr : RowI w0 r L) : FnB w0 (.func (.func F.impl_RuleCountsL1) #[] #[]) [r.v] (badRow L) := by
  intro w hb
  refine ⟨_, _, _, rfl, by kernel_rfl, ?_⟩
  show Calls PP F.impl_RuleCountsL1 #[r.v] w _
  refine impl_RuleCountsL1.calls r ?_
  have hrn : r.n = L.length := by have := hr.n; simpa using this
  rw [impl_RuleCountsL1.E_s, hrn]
  refine bif_intro (fun h => ?_) (fun h => ?_)
  · have h : L = [] := List.eq_nil_of_length_eq_zero (by simpa using h)
    exact ⟨by simp [badRow, h], Below.refl _ _⟩
  · have h : L ≠ [] := fun hh => by rw [hh] at h; simp at h
    refine ⟨?_, Below.refl _ _⟩
    have : badRow L = decide (L.length > 20) := by simp [badRow, h]
    rw [this]
    congr 2
    exact decide_eq_decide.2 (by omega)
theorem c_ruleL2 {w0 : World} {r : Sl} {L : List Int} (hr : RowI w0 r L) (hne : L ≠ []) {p : Addr} {x : Int} (hp : w0.cell? p = some (vI x)) : FnB w0 (.func (.func F.impl_RuleCountsL2) #[] #[.pointer (some p)]) [r.v] (headIs x L) := by
  intro w hb
  refine ⟨_, _, _, rfl, by kernel_rfl, ?_⟩
  show Calls PP F.impl_RuleCountsL2 #[r.v, .pointer (some p)] w _
  refine impl_RuleCountsL2.calls r p ?_
  rw [impl_RuleCountsL2.E_s]
  have h0 : 0 < L.length := List.length_pos_iff.2 hne
  refine RowI.get (hr.grow hb) (by omega) (by omega) ?_
  refine ⟨x, cell_grow hp hb, ?_⟩
  refine drew_intro fun w3 hd => ⟨rfl, hd.below _⟩
theorem c_implRuleCounts {w : World} {a : Sl} {R : List (List Int)} (ha : RowSS w a R) (hRl : R.length < 2^38) (ht : tot R < 2^37) (x n : Int) :
    Calls PP F.impl_RuleCounts #[a.v, vI x, vI n] w fun e w' => ∃ s : Sl, e = .returned s.v ∧ OwnI w' w.heap.size s (RuleCountsV R x n) ∧ Below w.heap.size w w' := by
  have han := ha.n
  have no : ∀ h : ¬ RuleOk R n, RuleCountsV R x n = [] := fun h => by rw [RuleCountsV, if_neg (fun hh => h hh.1)]
  refine impl_RuleCounts.calls a x n ?_
  rw [impl_RuleCounts.E_s, han]
  refine bif_dec (fun h1 => ?_) (fun h1 => ?_)
  · exact ⟨Sl.nil, rfl, by rw [no fun hh => by have := hh.lo; omega]; exact Own.nil _ _ _, Below.refl _ _⟩
  refine bif_dec (fun h2 => ?_) (fun h2 => ?_)
  · exact ⟨Sl.nil, rfl, by rw [no fun hh => by have := hh.hi; omega]; exact Own.nil _ _ _, Below.refl _ _⟩
  refine bif_dec (fun h3 => ?_) (fun h3 => ?_)
  · exact ⟨Sl.nil, rfl, by rw [no fun hh => by have := hh.len; omega]; exact Own.nil _ _ _, Below.refl _ _⟩
  refine (c_ContainsFuncS ha hRl (φ := badRow) (fun L _ r hr => c_ruleL1 hr)).mono ?_
  rintro e w1 ⟨rfl, hb1⟩
  refine ⟨_, rfl, ?_⟩
  refine bif_intro (fun h => ?_) (fun h => ?_)
  · refine ⟨Sl.nil, rfl, ?_, hb1⟩
    rw [no fun hh => ?_]; · exact Own.nil _ _ _
    obtain ⟨r, hr, h5⟩ := List.any_eq_true.1 h
    have := hh.row r hr
    have h6 : 0 < r.length := List.length_pos_iff.2 this.1
    simp [badRow] at h5
    rcases h5 with h5 | h5
    · exact this.1 h5
    · omega
  have hR : RuleOk R n := by
    refine ⟨by omega, fun r hr => ?_, by omega, by omega⟩
    have := List.any_eq_false.1 h r hr
    simp [badRow] at this
    exact ⟨this.1, by omega⟩
  obtain ⟨n, rfl⟩ : ∃ m : Nat, n = m := ⟨n.toNat, by omega⟩
  refine lit1 oneInt (B := w.heap.size) hb1.size (One.int x) ?_
  intro lb w2 hlb hg2 _
  have hb2 := hb1.grown hg2 hb1.size (by simp)
  refine lit1 oneInt (B := w.heap.size) hb2.size (One.int 1) ?_
  intro o w3 ho hg3 _
  have hb3 := hb2.grown hg3 hb2.size (by simp)
  have hlb3 : RowI w3 lb (itR R x 0) := (Own.grow (show OwnI w2 w.heap.size lb [x] from hlb) (below_of_grow hg3)).row
  have hs0 : Small R x 1 := fun k hk => by
    have h0 : k = 0 := by omega
    rw [h0]; simp [itR]
  refine impl_RuleCounts.L6_rule _ _ _ _ _ _ _ (I := fun lb o i w' => 0 ≤ i ∧ i ≤ n ∧ Below w.heap.size w w' ∧ RowI w' lb (itR R x i.toNat) ∧ OwnI w' w.heap.size o (lensR R x (i.toNat + 1)) ∧ Small R x (i.toNat + 1)) (μ := fun _ _ i _ => (n - i).toNat)
    ⟨by omega, by omega, hb3, hlb3, ho, hs0⟩ ?_
  rintro lb o i w' ⟨hi0, hi, hb, hlb, ho, hsm⟩
  rw [impl_RuleCounts.B6_s]
  refine bif_dec (fun h3 => ?_) (fun h3 => ?_)
  · refine lit0 oneInt (B := w'.heap.size) (Nat.le_refl _) ?_
    intro x0 w7 hx0 hg7 _
    have hb7 := below_of_grow hg7
    have hln : lb.n = (itR R x i.toNat).length := by have := hlb.n; simpa using this
    have hl5 := hsm i.toNat (by omega)
    have e1 : (i + 1).toNat = i.toNat + 1 := by omega
    rw [hln]
    refine impl_RuleCounts.L9_rule _ _ _ _ _ _ _ _ _ _ (I := fun nx j w8 => 0 ≤ j ∧ j ≤ (itR R x i.toNat).length ∧ Below w'.heap.size w' w8 ∧ OwnI w8 w'.heap.size nx (((itR R x i.toNat).take j.toNat).flatMap (ruleV R)) ∧ (((itR R x i.toNat).take j.toNat).flatMap (ruleV R)).length ≤ 5000) (μ := fun _ j _ => ((itR R x i.toNat).length - j).toNat)
      ⟨by omega, by omega, hb7, by simpa [OwnI] using hx0, by simp⟩ ?_
    rintro nx j w8 ⟨hj0, hj, hb8, hnx, hs8⟩
    have hbw8 := hb.trans (hb8.mono hb.size)
    rw [impl_RuleCounts.B9_s]
    refine bif_dec (fun h5 => ?_) (fun h5 => ?_)
    · have hlt : j.toNat < (itR R x i.toNat).length := by omega
      have hsn : ((itR R x i.toNat).take (j.toNat + 1)).flatMap (ruleV R) = ((itR R x i.toNat).take j.toNat).flatMap (ruleV R) ++ ruleV R (itR R x i.toNat)[j.toNat] := by
        rw [List.take_succ_eq_append_getElem hlt, flat_snoc1]
      refine RowI.get (hlb.grow hb8) hj0 (by omega) ?_
      rw [getD_lt hlt]
      generalize hy : (itR R x i.toNat)[j.toNat] = y at hsn
      refine new_set ?_
      intro ad w9 hc9 hb89
      have hb9 := hb8.trans (hb89.mono hb8.size)
      have hbw9 := hb.trans (hb9.mono hb.size)
      refine (c_IndexFuncS (ha.grow hbw9) hRl (φ := headIs y) (fun L hL r hr => c_ruleL2 hr (hR.row L hL).1 hc9)).mono ?_
      rintro e w10 ⟨rfl, hb910⟩
      refine ⟨_, rfl, ?_⟩
      have hb10 := hb9.trans (hb910.mono hb9.size)
      have hbw10 := hb.trans (hb10.mono hb.size)
      have hnx10 := (Own.grow hnx hb89).grow hb910
      have fin : ∀ (nx' : Sl) (w11 : World), OwnI w11 w'.heap.size nx' (((itR R x i.toNat).take (j.toNat + 1)).flatMap (ruleV R)) → Below w'.heap.size w' w11 → ∀ Q, (∀ z : Value, z = Sl.nil.v → RuleCountsV R x n = [] → Q .ret [(6, z)] w11) → impl_RuleCounts.J14 std a o nx' n i lb ((itR R x i.toNat).length : Int) j w11 (fun e2 w2 => ∃ next_9_n t37_n, e2 = impl_RuleCounts.emb9 a o next_9_n n i lb ((itR R x i.toNat).length : Int) t37_n ∧ (0 ≤ t37_n ∧ t37_n ≤ (itR R x i.toNat).length ∧ Below w'.heap.size w' w2 ∧ OwnI w2 w'.heap.size next_9_n (((itR R x i.toNat).take t37_n.toNat).flatMap (ruleV R)) ∧ (((itR R x i.toNat).take t37_n.toNat).flatMap (ruleV R)).length ≤ 5000) ∧ ((itR R x i.toNat).length - t37_n).toNat < ((itR R x i.toNat).length - j).toNat) Q := by
        intro nx' w11 hnx' hb11 Q hQ
        rw [impl_RuleCounts.J14_s]
        have hnn : nx'.n = (((itR R x i.toNat).take (j.toNat + 1)).flatMap (ruleV R)).length := by have := hnx'.n; simpa using this
        rw [hnn]
        refine bif_dec (fun h6 => ?_) (fun h6 => ?_)
        · refine hQ _ rfl ?_
          rw [RuleCountsV, if_neg]
          rintro ⟨_, h7⟩
          have h8 := h7 (i.toNat + 1) (by omega)
          have h9 := flat_take_mono (itR R x i.toNat) (ruleV R) (j.toNat + 1)
          rw [itR, stepR] at h8
          omega
        · refine ⟨nx', j + 1, by rw [w64_succ hj0 (by omega)], ⟨by omega, by omega, hb11, ?_, ?_⟩, by omega⟩
          · rw [show (j + 1).toNat = j.toNat + 1 by omega]; exact hnx'
          · rw [show (j + 1).toNat = j.toNat + 1 by omega]; omega
      have Qok : ∀ (w11 : World), Below w'.heap.size w' w11 → ∀ z : Value, z = Sl.nil.v → RuleCountsV R x n = [] → ∃ s : Sl, Ending.returned z = .returned s.v ∧ OwnI w11 w.heap.size s (RuleCountsV R x n) ∧ Below w.heap.size w w11 := fun w11 hb11 z hz h0 => ⟨Sl.nil, by rw [hz], by rw [h0]; exact Own.nil _ _ _, hb.trans (hb11.mono hb.size)⟩
      refine bif_intro (fun h6 => ?_) (fun h6 => ?_)
      · have h6 : 0 ≤ idxF (headIs y) R := by simpa using h6
        have hfl : R.findIdx (headIs y) < R.length := by
          unfold idxF at h6
          split at h6
          · assumption
          · omega
        have hix : idxF (headIs y) R = R.findIdx (headIs y) := by rw [idxF, if_pos hfl]
        rw [hix]
        refine RowSS.get (ha.grow hbw10) (by omega) (by omega) fun r hr => ?_
        rw [Int.toNat_natCast] at hr
        have hrv : ruleV R y = (R.getD (R.findIdx (headIs y)) []).drop 1 := by rw [ruleV, if_pos hfl]
        have hro := hR.row _ (List.getElem_mem hfl)
        rw [getD_SS hfl] at hr hrv
        refine tail_cut hr hro.1 fun t ht => ?_
        refine append_row oneInt hnx10 hb10.size ht (fun v hv => by obtain ⟨x, _, rfl⟩ := List.mem_map.1 hv; exact One.int x) (by rw [List.length_map, List.length_map, List.length_drop]; omega) ?_
        intro o4 w11 ho4 hg4 _ _
        have hb11 := hb10.grown hg4 hb10.size (fun g hg => (hnx10.lt g hg).1)
        refine fin o4 w11 ?_ hb11 _ fun z hz h0 => ?_
        · rw [hsn, hrv]
          rw [← List.map_append] at ho4
          exact ho4
        · rw [impl_RuleCounts.R9_s, impl_RuleCounts.R6_s]; exact Qok w11 hb11 z hz h0
      · have h6 : ¬ 0 ≤ idxF (headIs y) R := by simpa using h6
        have hfl : ¬ R.findIdx (headIs y) < R.length := fun hh => h6 (by rw [idxF, if_pos hh]; omega)
        refine fin nx w10 ?_ hb10 _ fun z hz h0 => ?_
        · rw [hsn, ruleV, if_neg hfl, List.append_nil]; exact hnx10
        · rw [impl_RuleCounts.R9_s, impl_RuleCounts.R6_s]; exact Qok w10 hb10 z hz h0
    · rw [impl_RuleCounts.A9_2_s]
      rw [show j.toNat = (itR R x i.toNat).length by omega, List.take_length] at hnx hs8
      have hnn : nx.n = ((itR R x i.toNat).flatMap (ruleV R)).length := by have := hnx.n; simpa using this
      rw [hnn]
      have ho8 := Own.grow ho hb8
      refine append_int ho8 hbw8.size (by rw [lensR_len]; omega) ?_
      intro o' w9 ho9 hg9 _
      have hnx9 : OwnI w9 w'.heap.size nx ((itR R x i.toNat).flatMap (ruleV R)) := Own.keeps hnx (keeps_grown hg9) (fun g hg hg2 => by have := (ho.lt g hg2).2; have := (hnx.lt g hg).1; omega)
      refine ⟨nx, o', i + 1, by rw [w64_succ hi0 (by omega)], ⟨by omega, by omega, hbw8.grown hg9 hbw8.size (fun g hg => (ho8.lt g hg).1), ?_, ?_, ?_⟩, by omega⟩
      · rw [e1, itR, stepR]; exact hnx9.row
      · rw [e1, lensR_succ, lenR, itR, stepR]; exact ho9
      · rw [e1]; exact hsm.succ (by rw [itR, stepR]; exact hs8)
  · rw [impl_RuleCounts.A6_0_s]
    rw [show i.toNat = n by omega] at ho hsm
    exact ⟨o, rfl, by rw [RuleCountsV, if_pos ⟨hR, by rw [Int.toNat_natCast]; exact hsm⟩, Int.toNat_natCast]; exact ho, hb⟩
end Go.Proofs.YteplokddaebbeaaGreat

/- Small things that the counts of classes share. -/
namespace Go.Proofs.YteplokddaebbeaaGreat
open Go Go.RowKit
set_option maxRecDepth 100000

theorem oneSSint : OneT T_SSSint T_SSint Sl.nil.v := oneT_of (by kernel_rfl) (by kernel_rfl) rfl
theorem ne_SS_S : T_SSint ≠ T_Sint := by decide
theorem ne_SS_int : T_SSint ≠ T_int := by decide
theorem flat_snoc' {α β : Type} (l : List α) (x : α) (f : α → List β) : (l ++ [x]).flatMap f = l.flatMap f ++ f x := by simp
theorem avoids_nil {LL : List (List Int)} (h : BasisOk LL) : avoidsV LL [] = true := by
  have : (LL.any fun q => hasP [] q) = false := by
    rw [List.any_eq_false]
    intro q hq hh
    obtain ⟨i, hi, rfl⟩ := List.getElem_of_mem hq
    have hne := (h.2 i hi).ne
    rw [getD_SS hi] at hne
    have := hasB_room _ _ (Places.nil []) hh
    have h0 : 0 < LL[i].length := List.length_pos_iff.2 hne
    have h5 : lastD [] = 0 := rfl
    rw [h5] at this
    simp only [List.length_nil] at this
    omega
  simp [avoidsV, this]
theorem OwnSS.one_nil {w w2 : World} {B : Nat} {s0 t0 : Sl} (h0 : OwnI w B s0 []) (ht0 : Own w2 B T_Sint t0 [s0.v]) (hg : w.grownBy w2 Option.none) : OwnSS w2 B t0 [[]] := by
  refine ⟨[s0], ht0, rfl, fun i r L e1 e2 => ?_, fun i j r t hij e1 e2 => ?_⟩
  · cases i with
    | zero => simp at e1 e2; subst e1 e2; exact h0.kept hg (fun _ _ => by simp)
    | succ i => simp at e1
  · cases i with
    | zero => cases j with
      | zero => exact absurd rfl hij
      | succ j => simp at e2
    | succ i => simp at e1
def CntOk (LL : List (List Int)) (n : Int) : Prop := BasisOk LL ∧ 0 ≤ n ∧ n ≤ 6
theorem c_six {n : Int} {K : Bool → Prop} (hk : K (decide (0 ≤ n) && decide (n ≤ 6))) : pcall1 .bool PP F.impl_isSix #[vI n] K := Pure.pcall1 (s := .bool) (c_isSix' n) hk
end Go.Proofs.YteplokddaebbeaaGreat

/- What each function does, step by step, written by a program (Gen.lean); each equation is checked by the kernel. -/
namespace Go.Proofs.YteplokddaebbeaaGreat
open Go
set_option linter.unusedVariables false
set_option maxRecDepth 100000
end Go.Proofs.YteplokddaebbeaaGreat

/- The places of the lows: both texts. -/
namespace Go.Proofs.YteplokddaebbeaaGreat
open Go Go.RowKit
set_option maxRecDepth 100000

/-- Is no earlier number less? -/
def isLow (L : List Int) (i : Nat) : Bool := (List.range i).all fun j => !decide (L.getD j 0 < L.getD i 0)
theorem isLow_iff {L : List Int} {i : Nat} : isLow L i = true ↔ ∀ j, j < i → ¬ L.getD j 0 < L.getD i 0 := by simp [isLow]
def lowsT (L : List Int) : Nat → List Int
  | 0 => []
  | k + 1 => if isLow L k then lowsT L k ++ [(k : Int) + 1] else lowsT L k
theorem lowsT_length (L : List Int) : ∀ k, (lowsT L k).length ≤ k
  | 0 => by simp [lowsT]
  | k + 1 => by
    have := lowsT_length L k
    rw [lowsT]
    split
    · simp; omega
    · omega
theorem mem_lowsT {L : List Int} : ∀ {k : Nat} {x : Int}, x ∈ lowsT L k ↔ 1 ≤ x ∧ x ≤ k ∧ isLow L (x - 1).toNat = true
  | 0, x => by simp [lowsT]; omega
  | k + 1, x => by
    rw [lowsT]
    have ih := mem_lowsT (L := L) (k := k) (x := x)
    split
    · rename_i h
      rw [List.mem_append, ih]
      simp only [List.mem_singleton]
      constructor
      · rintro (⟨h1, h2, h3⟩ | rfl)
        · exact ⟨h1, by omega, h3⟩
        · exact ⟨by omega, by omega, by rw [show ((k : Int) + 1 - 1).toNat = k by omega]; exact h⟩
      · rintro ⟨h1, h2, h3⟩
        by_cases e : x = (k : Int) + 1
        · exact .inr e
        · exact .inl ⟨h1, by omega, h3⟩
    · rename_i h
      rw [ih]
      constructor
      · rintro ⟨h1, h2, h3⟩; exact ⟨h1, by omega, h3⟩
      · rintro ⟨h1, h2, h3⟩
        refine ⟨h1, ?_, h3⟩
        by_cases e : x = (k : Int) + 1
        · subst e
          rw [show ((k : Int) + 1 - 1).toNat = k by omega] at h3
          exact absurd h3 h
        · omega
open Classical in
noncomputable def LowsV (L : List Int) : List Int := if IsP L then lowsT L L.length else []
/-- The least of the first k. -/
def leastT (L : List Int) : Nat → Int
  | 0 => (L.length : Int) + 1
  | k + 1 => if L.getD k 0 < leastT L k then L.getD k 0 else leastT L k
theorem leastT_le (L : List Int) : ∀ k j, j < k → leastT L k ≤ L.getD j 0
  | k + 1, j, hj => by
    rw [leastT]
    by_cases e : j = k
    · subst e; split <;> omega
    · have := leastT_le L k j (by omega)
      split <;> omega
theorem leastT_mem (L : List Int) : ∀ k, leastT L k = (L.length : Int) + 1 ∨ ∃ j, j < k ∧ leastT L k = L.getD j 0
  | 0 => .inl rfl
  | k + 1 => by
    rw [leastT]
    split
    · exact .inr ⟨k, by omega, rfl⟩
    · rcases leastT_mem L k with h | ⟨j, h1, h2⟩
      · exact .inl h
      · exact .inr ⟨j, by omega, h2⟩
theorem low_least {L : List Int} (h : IsP L) {k : Nat} (hk : k < L.length) : L.getD k 0 < leastT L k ↔ isLow L k = true := by
  rw [isLow_iff]
  constructor
  · intro h1 j hj h2
    have := leastT_le L k j hj
    omega
  · intro h1
    rcases leastT_mem L k with h2 | ⟨j, h2, h3⟩
    · have := (h.2 k hk).2.1; omega
    · have := h1 j h2
      have := (h.2 k hk).2.2 j h2
      omega

end Go.Proofs.YteplokddaebbeaaGreat

/- LeafCount, LowCounts, LevelSizes: both texts, and the laws. -/
namespace Go.Proofs.YteplokddaebbeaaGreat
open Go Go.RowKit
set_option maxRecDepth 100000

open Classical in
noncomputable def LeafCountV (LL : List (List Int)) (n : Int) : Int := if CntOk LL n then ((classV LL n.toNat).countP (fun p => (sitesV LL p).isEmpty) : Int) else -1
theorem countP_snoc {l : List (List Int)} {i : Nat} (hi : i < l.length) (φ : List Int → Bool) : (l.take (i + 1)).countP φ = (l.take i).countP φ + if φ l[i] = true then 1 else 0 := by
  rw [List.take_succ_eq_append_getElem hi, List.countP_append, List.countP_singleton]
/-! ### LowCounts -/
def lcStep (acc : List Int) (p : List Int) : List Int := acc.set (lowsT p p.length).length (acc.getD (lowsT p p.length).length 0 + 1)
def lcW (n : Nat) (l : List (List Int)) : List Int := l.foldl lcStep (List.replicate (n + 1) 0)
theorem lcW_snoc (n : Nat) (l : List (List Int)) (p : List Int) : lcW n (l ++ [p]) = lcStep (lcW n l) p := by simp [lcW, List.foldl_append]
theorem lcW_facts (n : Nat) : ∀ (k : Nat) (l : List (List Int)), l.length = k → (lcW n l).length = n + 1 ∧ ∀ i, 0 ≤ (lcW n l).getD i 0 ∧ (lcW n l).getD i 0 ≤ k := by
  intro k
  induction k with
  | zero =>
    intro l hl
    have : l = [] := List.eq_nil_of_length_eq_zero hl
    subst this
    refine ⟨by simp [lcW], fun i => ?_⟩
    simp only [lcW, List.foldl_nil, List.getD_eq_getElem?_getD, List.getElem?_replicate]
    split <;> simp
  | succ k ih =>
    intro l hl
    obtain ⟨M, p, rfl⟩ : ∃ M p, l = M ++ [p] := ⟨l.dropLast, l.getLast (by rintro rfl; simp at hl), (List.dropLast_concat_getLast _).symm⟩
    obtain ⟨h1, h2⟩ := ih M (by simpa using hl)
    rw [lcW_snoc, lcStep]
    refine ⟨by simp [h1], fun i => ?_⟩
    have h3 := h2 i
    have h4 := h2 (lowsT p p.length).length
    simp only [List.getD_eq_getElem?_getD, List.getElem?_set] at h3 h4 ⊢
    split
    · rename_i e
      split
      · simp only [Option.getD_some]; omega
      · simp; omega
    · omega
open Classical in
noncomputable def LowCountsV (LL : List (List Int)) (n : Int) : List Int := if CntOk LL n then lcW n.toNat (classV LL n.toNat) else []
theorem LowCountsV_len (LL : List (List Int)) (n : Int) : (LowCountsV LL n).length < 2^38 := by
  unfold LowCountsV
  split
  · rename_i h
    have := (lcW_facts n.toNat _ (classV LL n.toNat) rfl).1
    have := h.2
    omega
  · simp
end Go.Proofs.YteplokddaebbeaaGreat

/- LevelSizes: both texts, and the law. -/
namespace Go.Proofs.YteplokddaebbeaaGreat
open Go Go.RowKit
set_option maxRecDepth 100000

/-- The levels of the tree. -/
def levV (LL : List (List Int)) : Nat → List (List Int)
  | 0 => [[]]
  | k + 1 => (levV LL k).flatMap (childrenV LL)
theorem lev_mem {LL : List (List Int)} (h : BasisOk LL) : ∀ k, k ≤ 8 → ∀ p ∈ levV LL k, p.length = k ∧ IsP p ∧ avoidsV LL p = true
  | 0, _, p, hp => by
    simp [levV] at hp; subst hp
    exact ⟨rfl, ⟨by simp, fun j hj => by simp at hj⟩, avoids_nil h⟩
  | k + 1, hk, p, hp => by
    rw [levV, List.mem_flatMap] at hp
    obtain ⟨q, hq, hp⟩ := hp
    obtain ⟨h1, h2, h3⟩ := lev_mem h k (by omega) q hq
    obtain ⟨i, hi, rfl, h4⟩ := childrenV_mem hp
    exact ⟨by rw [childW_length hi, h1], childW_isP h2 (by omega) hi, h4⟩
theorem lev_len {LL : List (List Int)} (h : BasisOk LL) : ∀ k, k ≤ 7 → (levV LL k).length ≤ 8 ^ k
  | 0, _ => by simp [levV]
  | k + 1, hk => by
    have h1 := lev_len h k (by omega)
    have h2 := length_flatMap_le (levV LL k) (childrenV LL) 8 (fun p hp => by
      have := (lev_mem h k (by omega) p hp).1
      have := childrenV_len LL p
      omega)
    rw [levV, Nat.pow_succ]
    omega
theorem lev_len7 {LL : List (List Int)} (h : BasisOk LL) {k : Nat} (hk : k ≤ 7) : (levV LL k).length ≤ 2097152 :=
  Nat.le_trans (lev_len h k hk) (Nat.le_trans (Nat.pow_le_pow_right (by omega) hk) (by decide))
theorem flat_take_len {LL : List (List Int)} (h : BasisOk LL) {k : Nat} (hk : k ≤ 6) (i : Nat) : (((levV LL k).take i).flatMap (childrenV LL)).length ≤ 16777216 := by
  have h2 := length_flatMap_le ((levV LL k).take i) (childrenV LL) 8 (fun p hp => by
      have := (lev_mem h k (by omega) p (List.mem_of_mem_take hp)).1
      have := childrenV_len LL p
      omega)
  have h3 := lev_len7 h (k := k) (by omega)
  rw [List.length_take] at h2
  omega
def levL (LL : List (List Int)) (k : Nat) : Int := ((levV LL k).length : Int)
def levS (LL : List (List Int)) (m : Nat) : List Int := (List.range m).map (levL LL)
theorem levS_succ (LL : List (List Int)) (m : Nat) : levS LL (m + 1) = levS LL m ++ [levL LL m] := by simp [levS, List.range_succ]
theorem levS_len (LL : List (List Int)) (m : Nat) : (levS LL m).length = m := by simp [levS]
open Classical in
noncomputable def LevelSizesV (LL : List (List Int)) (n : Int) : List Int := if CntOk LL n then levS LL (n.toNat + 1) else []
theorem LevelSizesV_len (LL : List (List Int)) (n : Int) : (LevelSizesV LL n).length < 2^38 := by
  unfold LevelSizesV
  split
  · rename_i h
    have := h.2
    rw [levS_len]; omega
  · simp
/-- One row that is empty. -/
def Lvls (LL : List (List Int)) (w : World) (B : Nat) (s : Sl) (m : Nat) : Prop := ∃ rs : List Sl, Own w B T_SSint s (rs.map Sl.v) ∧ rs.map (fun r => (r.n : Int)) = levS LL m
theorem Lvls.n {LL w B s m} (h : Lvls LL w B s m) : s.n = m := by
  obtain ⟨rs, h1, h2⟩ := h
  have h3 := congrArg List.length h2
  rw [List.length_map, levS_len] at h3
  have := h1.row.n
  simpa [h3] using this
end Go.Proofs.YteplokddaebbeaaGreat

/- Classes length by length: the permutations of a class arise from the shorter ones by a last value. -/
namespace Go.Proofs.YteplokddaebbeaaGreat
open Go
set_option maxRecDepth 100000

def bump (v x : Int) : Int := if x ≥ v then x + 1 else x
def unb (v x : Int) : Int := if x > v then x - 1 else x
def insV (q : List Int) (v : Int) : List Int := q.map (bump v) ++ [v]
def nextV (LL : List (List Int)) (k : Nat) (last : List (List Int)) : List (List Int) := last.flatMap fun q => ((idn k).map (insV q)).filter (avoidsV LL)
def l12V (LL : List (List Int)) : Nat → List (List Int)
  | 0 => [[]]
  | k + 1 => nextV LL (k + 1) (l12V LL k)
theorem bump_lt (v x y : Int) : bump v x < bump v y ↔ x < y := by unfold bump; split <;> split <;> omega
theorem bump_inj (v x y : Int) (h : bump v x = bump v y) : x = y := by unfold bump at h; split at h <;> split at h <;> omega
theorem bump_ne (v x : Int) : bump v x ≠ v := by unfold bump; split <;> omega
theorem bump_unb (v x : Int) (h : x ≠ v) : bump v (unb v x) = x := by unfold bump unb; split <;> split <;> omega
theorem insV_length (q : List Int) (v : Int) : (insV q v).length = q.length + 1 := by simp [insV]
theorem insV_getD (q : List Int) (v : Int) {i : Nat} (h : i < q.length) : (insV q v).getD i 0 = bump v (q.getD i 0) := by
  rw [getD_lt h]
  simp [insV, List.getD_eq_getElem?_getD, List.getElem?_append, h]
theorem insV_inj {q q' : List Int} {v v' : Int} (h : insV q v = insV q' v') : q = q' ∧ v = v' := by
  obtain ⟨h1, h2⟩ := List.append_inj' h rfl
  have hv : v = v' := by simpa using h2
  subst hv
  exact ⟨(List.map_inj_right (fun x y => bump_inj v x y)).1 h1, rfl⟩
theorem hasB_ins {q Q : List Int} {v : Int} : ∀ (m : Nat) (h : List Int), Places q h → hasB q Q m h = true → hasB (insV q v) Q m h = true
  | 0, _, _, _ => rfl
  | m + 1, h, hh, hb => by
    obtain ⟨x, h1, h2, h3, h4⟩ := hasB_succ.1 hb
    have h0 := hh.last
    refine hasB_succ.2 ⟨x, h1, by rw [insV_length]; omega, ?_, hasB_ins m _ (hh.snoc (by omega) h2) h4⟩
    rw [fitsB_iff] at h3 ⊢
    intro k hk
    have h5 := h3 k hk
    have h6 := hh _ (List.getElem_mem hk)
    unfold fitsAt at h5 ⊢
    rw [getD_lt hk] at h5 ⊢
    rw [insV_getD _ _ (by omega), insV_getD _ _ (by omega)]
    rw [← h5]
    congr 1
    exact decide_eq_decide.2 (bump_lt _ _ _)
theorem avoids_ins {LL : List (List Int)} {q : List Int} {v : Int} (h : avoidsV LL (insV q v) = true) : avoidsV LL q = true := by
  unfold avoidsV at h ⊢
  rw [Bool.not_eq_true'] at h ⊢
  rw [List.any_eq_false] at h ⊢
  intro Q hQ hq
  exact h Q hQ (hasB_ins _ _ (Places.nil q) hq)
theorem insV_perm {q : List Int} {v : Int} {k : Nat} (hq : q.Perm (idn k)) (hv : v ∈ idn (k + 1)) : (insV q v).Perm (idn (k + 1)) := by
  have hv := mem_idn.1 hv
  have hn : q.Nodup := hq.nodup_iff.2 (idn_nodup k)
  have hl : q.length = k := by rw [hq.length_eq, idn_length]
  refine perm_of_nodup ?_ (fun x hx => ?_) (by rw [insV_length, hl])
  · rw [insV, List.nodup_append]
    refine ⟨?_, by simp, fun a ha b hb => ?_⟩
    · exact List.pairwise_map.2 (hn.imp fun hab e => hab (bump_inj _ _ _ e))
    · obtain ⟨y, _, rfl⟩ := List.mem_map.1 ha
      have : b = v := by simpa using hb
      rw [this]; exact bump_ne v y
  · rw [insV] at hx
    rcases List.mem_append.1 hx with h | h
    · obtain ⟨y, hy, rfl⟩ := List.mem_map.1 h
      have := mem_idn.1 (hq.mem_iff.1 hy)
      unfold bump; split <;> omega
    · have : x = v := by simpa using h
      omega
theorem insV_of_perm {p : List Int} {k : Nat} (hp : p.Perm (idn (k + 1))) : ∃ q v, q.Perm (idn k) ∧ v ∈ idn (k + 1) ∧ p = insV q v := by
  have hl : p.length = k + 1 := by rw [hp.length_eq, idn_length]
  obtain ⟨d, v, rfl⟩ : ∃ d v, p = d ++ [v] := ⟨p.dropLast, p.getLast (by rintro rfl; simp at hl), (List.dropLast_concat_getLast _).symm⟩
  have hn : (d ++ [v]).Nodup := hp.nodup_iff.2 (idn_nodup _)
  rw [List.nodup_append] at hn
  obtain ⟨hn1, _, hn2⟩ := hn
  have hd : ∀ x ∈ d, x ≠ v := fun x hx => hn2 x hx v (by simp)
  have hm : ∀ x ∈ d ++ [v], 1 ≤ x ∧ x ≤ ((k + 1 : Nat) : Int) := fun x hx => mem_idn.1 (hp.mem_iff.1 hx)
  have hv := hm v (by simp)
  refine ⟨d.map (unb v), v, ?_, mem_idn.2 hv, ?_⟩
  · refine perm_of_nodup ?_ (fun x hx => ?_) (by simpa using hl)
    · refine List.pairwise_map.2 ?_
      have h5 : List.Pairwise (fun a b => a ∈ d ∧ b ∈ d ∧ a ≠ b) d := List.pairwise_iff_forall_sublist.2 fun {a b} hs => by
        have hs' := hs.subset
        exact ⟨hs' (by simp), hs' (by simp), by
          have := (List.pairwise_iff_forall_sublist.1 hn1) hs
          exact this⟩
      refine h5.imp fun ⟨ha, hb, hab⟩ e => hab ?_
      rw [← bump_unb v _ (hd _ ha), ← bump_unb v _ (hd _ hb), e]
    · obtain ⟨y, hy, rfl⟩ := List.mem_map.1 hx
      have h6 := hm y (by simp [hy])
      have h7 := hd y hy
      unfold unb; split <;> omega
  · rw [insV, List.map_map]
    congr 1
    symm
    have : d.map (bump v ∘ unb v) = d.map id := List.map_congr_left fun x hx => bump_unb v x (hd x hx)
    rw [this, List.map_id]
theorem mem_l12V {LL : List (List Int)} (h0 : avoidsV LL [] = true) : ∀ {k : Nat} {p : List Int}, p ∈ l12V LL k ↔ p.Perm (idn k) ∧ avoidsV LL p = true
  | 0, p => by
    simp only [l12V, List.mem_singleton]
    constructor
    · rintro rfl; exact ⟨List.Perm.refl _, h0⟩
    · rintro ⟨h, _⟩; exact List.Perm.eq_nil h
  | k + 1, p => by
    rw [l12V, nextV, List.mem_flatMap]
    constructor
    · rintro ⟨q, hq, hp⟩
      obtain ⟨hq1, _⟩ := (mem_l12V h0).1 hq
      rw [List.mem_filter] at hp
      obtain ⟨hp, ha⟩ := hp
      obtain ⟨v, hv, rfl⟩ := List.mem_map.1 hp
      exact ⟨insV_perm hq1 hv, ha⟩
    · rintro ⟨hp, ha⟩
      obtain ⟨q, v, hq, hv, rfl⟩ := insV_of_perm hp
      exact ⟨q, (mem_l12V h0).2 ⟨hq, avoids_ins ha⟩, List.mem_filter.2 ⟨List.mem_map.2 ⟨v, hv, rfl⟩, ha⟩⟩
theorem l12V_nodup {LL : List (List Int)} : ∀ k, (l12V LL k).Nodup
  | 0 => by simp [l12V]
  | k + 1 => by
    rw [l12V, nextV, List.Nodup, List.pairwise_flatMap]
    refine ⟨fun q _ => List.Pairwise.filter _ (List.pairwise_map.2 ((idn_nodup (k + 1)).imp fun hab e => hab (insV_inj e).2)), (l12V_nodup k).imp fun {a b} hab x hx y hy e => ?_⟩
    obtain ⟨v, _, rfl⟩ := List.mem_map.1 (List.mem_filter.1 hx).1
    obtain ⟨v', _, rfl⟩ := List.mem_map.1 (List.mem_filter.1 hy).1
    exact hab (insV_inj e).1
theorem lvl_nodup (n : Nat) : ∀ k, (lvl n k).Nodup
  | 0 => by simp [lvl]
  | k + 1 => by
    rw [lvl, List.Nodup, List.pairwise_flatMap]
    refine ⟨fun q _ => ?_, (lvl_nodup n k).imp fun {a b} hab x hx y hy e => ?_⟩
    · rw [extV, List.pairwise_flatMap]
      refine ⟨fun v _ => by split <;> simp, (idn_nodup n).imp fun {a b} hab x hx y hy e => ?_⟩
      split at hx
      · simp at hx
      · split at hy
        · simp at hy
        · simp at hx hy; subst hx hy; exact hab (by simpa using e)
    · obtain ⟨v, _, _, rfl⟩ := mem_extV.1 hx
      obtain ⟨v', _, _, rfl⟩ := mem_extV.1 hy
      exact hab (List.append_inj' e rfl).1
theorem l12V_perm {LL : List (List Int)} (h0 : avoidsV LL [] = true) (k : Nat) : (l12V LL k).Perm (classV LL k) := by
  refine (List.perm_ext_iff_of_nodup (l12V_nodup k) (List.Pairwise.filter _ (lvl_nodup k k))).2 fun p => ?_
  show p ∈ l12V LL k ↔ p ∈ (permsV k).filter (avoidsV LL)
  rw [mem_l12V h0, List.mem_filter, mem_permsV]
theorem l12V_len {LL : List (List Int)} (h0 : avoidsV LL [] = true) (k : Nat) : (l12V LL k).length = (classV LL k).length := (l12V_perm h0 k).length_eq
theorem l12V_mem_len {LL : List (List Int)} (h0 : avoidsV LL [] = true) {k : Nat} {p : List Int} (h : p ∈ l12V LL k) : p.length = k := by
  rw [((mem_l12V h0).1 h).1.length_eq, idn_length]
end Go.Proofs.YteplokddaebbeaaGreat

/- A permutation has no number twice. -/
namespace Go.Proofs.YteplokddaebbeaaGreat
open Go
theorem isP_nd {L : List Int} (h : IsP L) : L.Nodup := by
  rw [List.nodup_iff_pairwise_ne, List.pairwise_iff_getElem]
  intro i j hi hj hij e
  refine (h.2 j hj).2.2 i hij ?_
  simp only [List.getD_eq_getElem?_getD, List.getElem?_eq_getElem hi, List.getElem?_eq_getElem hj, Option.getD_some]
  exact e
end Go.Proofs.YteplokddaebbeaaGreat

/- Parents and children; the levels of the tree are the classes. No program in sight. -/
namespace Go.Proofs.YteplokddaebbeaaGreat
open Go
set_option maxRecDepth 100000

/-! ### A greatest number put in keeps the patterns -/
def shf (i : Nat) (x : Int) : Int := if x ≤ i then x else x + 1
theorem childW_getD {P : List Int} {i : Nat} (hi : i ≤ P.length) {x : Int} (h1 : 1 ≤ x) (h2 : x ≤ P.length) : (childW P i).getD (shf i x - 1).toNat 0 = P.getD (x - 1).toNat 0 := by
  have ht : (P.take i).length = i := by simp; omega
  unfold childW shf
  simp only [List.getD_eq_getElem?_getD]
  split
  · rw [List.getElem?_append_left (by omega), List.getElem?_take, if_pos (by omega)]
  · rw [List.getElem?_append_right (by omega), ht, show (x + 1 - 1).toNat - i = (x - 1).toNat - i + 1 by omega, List.getElem?_cons_succ, List.getElem?_drop]
    congr 2
    omega
theorem lastD_shf {i : Nat} {h : List Int} {P : List Int} (hh : Places P h) : lastD (h.map (shf i)) = if h = [] then 0 else shf i (lastD h) := by
  by_cases e : h = []
  · subst e; rfl
  · have hp : 0 < h.length := List.length_pos_iff.2 e
    rw [if_neg e, lastD, lastD, List.length_map, getD_lt (by simpa using by omega), getD_lt (by omega)]
    simp
theorem hasB_child {P Q : List Int} {i : Nat} (hi : i ≤ P.length) : ∀ (m : Nat) (h : List Int), Places P h → hasB P Q m h = true → hasB (childW P i) Q m (h.map (shf i)) = true
  | 0, _, _, _ => rfl
  | m + 1, h, hh, hb => by
    obtain ⟨x, h1, h2, h3, h4⟩ := hasB_succ.1 hb
    have h0 := hh.last
    have ih := hasB_child hi m _ (hh.snoc (by omega) h2) h4
    rw [List.map_append] at ih
    have hl := childW_length hi
    refine hasB_succ.2 ⟨shf i x, ?_, ?_, ?_, ih⟩
    · rw [lastD_shf hh]
      split
      · unfold shf; split <;> omega
      · unfold shf; split <;> split <;> omega
    · rw [hl]; unfold shf; split <;> omega
    · rw [fitsB_iff] at h3 ⊢
      intro k hk
      rw [List.length_map] at hk
      have h5 := h3 k hk
      have h6 := hh _ (List.getElem_mem hk)
      unfold fitsAt at h5 ⊢
      rw [getD_lt hk] at h5
      rw [List.length_map, getD_lt (L := h.map (shf i)) (i := k) (by rw [List.length_map]; exact hk)]
      simp only [List.getElem_map]
      rw [childW_getD hi h6.1 h6.2, childW_getD hi (by omega) h2]
      exact h5
theorem avoids_child {LL : List (List Int)} {P : List Int} {i : Nat} (hi : i ≤ P.length) (h : avoidsV LL (childW P i) = true) : avoidsV LL P = true := by
  unfold avoidsV at h ⊢
  rw [Bool.not_eq_true'] at h ⊢
  rw [List.any_eq_false] at h ⊢
  intro Q hQ hq
  exact h Q hQ (hasB_child hi _ _ (Places.nil P) hq)

/-! ### The parent -/
/-- The numbers but the greatest. -/
def par (L : List Int) : List Int := L.filter fun x => decide (x < L.length)
theorem par_child {P : List Int} {k i : Nat} (h : P.Perm (idn k)) (hi : i ≤ P.length) : par (childW P i) = P := by
  have hl : P.length = k := by rw [h.length_eq, idn_length]
  have hb : ∀ x ∈ P, x ≤ k := fun x hx => (mem_idn.1 (h.mem_iff.1 hx)).2
  have hcl := childW_length hi
  have h1 : ∀ A : List Int, (∀ x ∈ A, x ∈ P) → A.filter (fun x => decide (x < ((childW P i).length : Int))) = A := fun A hA => by
    rw [List.filter_eq_self]
    intro x hx
    have := hb x (hA x hx)
    simp; omega
  unfold par
  have e : childW P i = P.take i ++ ((P.length : Int) + 1) :: P.drop i := rfl
  conv => lhs; rw [e]
  rw [List.filter_append, List.filter_cons, if_neg (by simp; omega)]
  have e2 : (P.take i ++ ((P.length : Int) + 1) :: P.drop i).length = (childW P i).length := rfl
  rw [e2, h1 _ (fun x hx => List.mem_of_mem_take hx), h1 _ (fun x hx => List.mem_of_mem_drop hx), List.take_append_drop]
theorem child_of_perm {p : List Int} {k : Nat} (hp : p.Perm (idn (k + 1))) : ∃ q i, q.Perm (idn k) ∧ i ≤ q.length ∧ p = childW q i := by
  have hm : ((k : Int) + 1) ∈ p := hp.mem_iff.2 (mem_idn.2 ⟨by omega, by omega⟩)
  obtain ⟨A, B, rfl⟩ := List.append_of_mem hm
  have h1 : (A ++ ((k : Int) + 1) :: B).Perm (((k : Int) + 1) :: (A ++ B)) := List.perm_middle
  have h2 := h1.symm.trans hp
  rw [idn_succ] at h2
  have h3 : (idn k ++ [(k : Int) + 1]).Perm (((k : Int) + 1) :: idn k) := List.perm_append_comm (l₂ := [(k : Int) + 1])
  have hq := List.Perm.cons_inv (h2.trans h3)
  have hl : (A ++ B).length = k := by rw [hq.length_eq, idn_length]
  refine ⟨A ++ B, A.length, hq, by simp, ?_⟩
  unfold childW
  rw [hl]
  simp
theorem mem_sitesT {LL : List (List Int)} {P : List Int} : ∀ {k i : Nat}, i < k → avoidsV LL (childW P i) = true → (i : Int) ∈ sitesT LL P k
  | k + 1, i, hi, h => by
    rw [sitesT]
    by_cases e : i = k
    · subst e; rw [if_pos h]; simp
    · have := mem_sitesT (LL := LL) (P := P) (k := k) (by omega) h
      split
      · exact List.mem_append_left _ this
      · exact this
theorem mem_children {LL : List (List Int)} {P q : List Int} : q ∈ childrenV LL P ↔ ∃ i : Nat, i ≤ P.length ∧ q = childW P i ∧ avoidsV LL q = true := by
  constructor
  · exact childrenV_mem
  · rintro ⟨i, hi, rfl, ha⟩
    exact List.mem_map.2 ⟨(i : Int), mem_sitesT (by omega) ha, by simp⟩
theorem sitesT_sorted {LL : List (List Int)} {P : List Int} : ∀ k, (sitesT LL P k).Pairwise (· < ·)
  | 0 => List.Pairwise.nil
  | k + 1 => by
    rw [sitesT]
    split
    · rw [List.pairwise_append]
      refine ⟨sitesT_sorted k, by simp, fun a ha b hb => ?_⟩
      have := (sitesT_mem ha).2.1
      simp at hb; omega
    · exact sitesT_sorted k
theorem child_inj {P : List Int} {k i j : Nat} (h : P.Perm (idn k)) (hi : i ≤ P.length) (hj : j ≤ P.length) (e : childW P i = childW P j) : i = j := by
  have hl : P.length = k := by rw [h.length_eq, idn_length]
  have hne : ∀ n, P[n]? ≠ some ((P.length : Int) + 1) := fun n e => by
    have := (mem_idn.1 (h.mem_iff.1 (List.mem_of_getElem? e))).2
    omega
  have key : ∀ i j, i ≤ P.length → j ≤ P.length → i < j → childW P i ≠ childW P j := fun i j hi hj hij e => by
    have h1 : (childW P i)[i]? = some ((P.length : Int) + 1) := by
      unfold childW; rw [List.getElem?_append_right (by simp; omega)]; simp [Nat.min_eq_left hi]
    have h2 : (childW P j)[i]? = P[i]? := by
      unfold childW; rw [List.getElem?_append_left (by simp; omega), List.getElem?_take, if_pos hij]
    rw [e, h2] at h1
    exact hne i h1
  rcases Nat.lt_trichotomy i j with h1 | h1 | h1
  · exact absurd e (key i j hi hj h1)
  · exact h1
  · exact absurd e.symm (key j i hj hi h1)
theorem children_nodup {LL : List (List Int)} {P : List Int} {k : Nat} (h : P.Perm (idn k)) : (childrenV LL P).Nodup := by
  unfold childrenV
  rw [List.nodup_iff_pairwise_ne, List.pairwise_map]
  refine List.Pairwise.imp_of_mem (fun {a b} ha hb hab e => ?_) (sitesT_sorted (LL := LL) (P := P) (P.length + 1))
  obtain ⟨a1, a2, _⟩ := sitesT_mem ha
  obtain ⟨b1, b2, _⟩ := sitesT_mem hb
  have := child_inj h (by omega) (by omega) e
  omega
/-- The children of all permutations of a class are the next class. -/
theorem next_class {LL : List (List Int)} (k : Nat) {l : List (List Int)} (hl : l.Perm (classV LL k)) : (l.flatMap (childrenV LL)).Perm (classV LL (k + 1)) := by
  have hn : l.Nodup := hl.nodup_iff.2 (List.Pairwise.filter _ (lvl_nodup k k))
  have hm : ∀ q, q ∈ l ↔ q.Perm (idn k) ∧ avoidsV LL q = true := fun q => by
    rw [hl.mem_iff]
    show q ∈ (permsV k).filter (avoidsV LL) ↔ _
    rw [List.mem_filter, mem_permsV]
  refine (List.perm_ext_iff_of_nodup ?_ (List.Pairwise.filter _ (lvl_nodup (k + 1) (k + 1)))).2 fun p => ?_
  · rw [List.Nodup, List.pairwise_flatMap]
    refine ⟨fun q hq => children_nodup ((hm q).1 hq).1, List.Pairwise.imp_of_mem (fun {a b} ha hb hab x hx y hy e => ?_) hn⟩
    obtain ⟨i, hi, rfl, _⟩ := mem_children.1 hx
    obtain ⟨j, hj, rfl, _⟩ := mem_children.1 hy
    apply hab
    rw [← par_child ((hm a).1 ha).1 hi, e, par_child ((hm b).1 hb).1 hj]
  · show p ∈ l.flatMap (childrenV LL) ↔ p ∈ (permsV (k + 1)).filter (avoidsV LL)
    rw [List.mem_filter, mem_permsV, List.mem_flatMap]
    constructor
    · rintro ⟨q, hq, hp⟩
      obtain ⟨i, hi, rfl, ha⟩ := mem_children.1 hp
      refine ⟨?_, ha⟩
      have h1 := ((hm q).1 hq).1
      have hlq : q.length = k := by rw [h1.length_eq, idn_length]
      have h2 : (childW q i).Perm (((q.length : Int) + 1) :: q) := by
        unfold childW
        have := List.perm_middle (a := (q.length : Int) + 1) (l₁ := q.take i) (l₂ := q.drop i)
        rwa [List.take_append_drop] at this
      rw [idn_succ]
      refine h2.trans ?_
      rw [hlq]
      exact (List.Perm.cons _ h1).trans (List.perm_append_comm (l₁ := [(k : Int) + 1]))
    · rintro ⟨hp, ha⟩
      obtain ⟨q, i, hq, hi, rfl⟩ := child_of_perm hp
      exact ⟨q, (hm q).2 ⟨hq, avoids_child hi ha⟩, mem_children.2 ⟨i, hi, rfl, ha⟩⟩
theorem lev_class {LL : List (List Int)} (h : BasisOk LL) : ∀ k, (levV LL k).Perm (classV LL k)
  | 0 => by
    have : classV LL 0 = [[]] := by
      show (permsV 0).filter (avoidsV LL) = [[]]
      have e : permsV 0 = [[]] := rfl
      rw [e, List.filter_cons, if_pos (avoids_nil h)]; rfl
    rw [this]; exact List.Perm.refl _
  | k + 1 => next_class k (lev_class h k)
/-- How many children the permutations of a class have. -/
theorem sites_total {LL : List (List Int)} (k : Nat) : ((classV LL k).map fun p => (sitesV LL p).length).sum = (classV LL (k + 1)).length := by
  have h1 := (next_class (LL := LL) k (List.Perm.refl _)).length_eq
  rw [← h1, List.length_flatMap]
  congr 1
  refine List.map_congr_left fun p _ => ?_
  simp [childrenV]
theorem levS_cls {LL : List (List Int)} (h : BasisOk LL) (m : Nat) : levS LL m = (List.range m).map fun k => ((classV LL k).length : Int) := by
  rw [levS]
  refine List.map_congr_left fun k _ => ?_
  rw [levL, (lev_class h k).length_eq]
theorem child_class {LL : List (List Int)} {P c : List Int} (h : InCl LL P) (h8 : P.length < 8) (hc : c ∈ childrenV LL P) : InCl LL c ∧ par c = P ∧ c ≠ [] ∧ IsP c := by
  obtain ⟨i, hi, rfl, ha⟩ := mem_children.1 hc
  obtain ⟨h1, h2, _⟩ := h
  have hp := childW_isP h2 (by omega) hi
  exact ⟨⟨h1, hp, ha⟩, par_child h2.perm hi, fun e => by have := childW_length hi; rw [e] at this; simp at this, hp⟩
end Go.Proofs.YteplokddaebbeaaGreat
