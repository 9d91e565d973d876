/- The texts Sites, Cc0, CodeLo, Lows, CodeS, CodeB, LawSs, LawSz, Counts, Levels, WilfMath, Nd, ChMath, CodeCc, ClCo, CodePl, PlMath, CodeEq, Eq, Foot, Plc, CodeDe, Del, CodeL20, LisE, L20, ClassCase, ChLaw in one (gmerge.py). -/
import Derived.Test.YteplokddaebbeaaChM4
/- Active sites, children, labels: both texts. -/
namespace Go.Proofs.Yteplokddaebbeaa
open Go Go.RowKit
set_option maxRecDepth 100000

def sitesT (LL : List (List Int)) (P : List Int) : Nat → List Int
  | 0 => []
  | k + 1 => if avoidsV LL (childW P k) = true then sitesT LL P k ++ [(k : Int)] else sitesT LL P k
def sitesV (LL : List (List Int)) (P : List Int) : List Int := sitesT LL P (P.length + 1)
theorem sitesT_len (LL : List (List Int)) (P : List Int) : ∀ k, (sitesT LL P k).length ≤ k
  | 0 => by simp [sitesT]
  | k + 1 => by
    have := sitesT_len LL P k
    rw [sitesT]
    split
    · simp; omega
    · omega
theorem sitesT_mem {LL : List (List Int)} {P : List Int} : ∀ {k : Nat} {x : Int}, x ∈ sitesT LL P k → 0 ≤ x ∧ x < k ∧ avoidsV LL (childW P x.toNat) = true
  | 0, x, h => by simp [sitesT] at h
  | k + 1, x, h => by
    rw [sitesT] at h
    split at h
    · rename_i h2
      rcases List.mem_append.1 h with h | h
      · obtain ⟨a, b, c⟩ := sitesT_mem h; exact ⟨a, by omega, c⟩
      · simp at h; subst h; exact ⟨by omega, by omega, by simpa using h2⟩
    · obtain ⟨a, b, c⟩ := sitesT_mem h; exact ⟨a, by omega, c⟩
def childrenV (LL : List (List Int)) (P : List Int) : List (List Int) := (sitesV LL P).map fun i => childW P i.toNat
theorem childW_isP {P : List Int} (h : IsP P) (h7 : P.length ≤ 7) {i : Nat} (hi : i ≤ P.length) : IsP (childW P i) := by
  refine isP_of (n := P.length + 1) ?_ (by omega)
  rw [idn_succ, childW]
  have h1 : (P.take i ++ ((P.length : Int) + 1) :: P.drop i).Perm (((P.length : Int) + 1) :: (P.take i ++ P.drop i)) := List.perm_middle
  rw [List.take_append_drop] at h1
  exact h1.trans ((List.Perm.cons _ h.perm).trans (List.perm_append_singleton _ _).symm)

theorem c_active {w : World} {l p : Sl} {LL : List (List Int)} {P : List Int} (hl : RowSS w l LL) (hB : BasisOk LL) (hp : RowI w p P) (hP : P.length ≤ 7) :
    Calls PP F.impl_active #[l.v, p.v] w fun e w' => ∃ s : Sl, e = .returned s.v ∧ OwnI w' w.heap.size s (sitesV LL P) ∧ Below w.heap.size w w' := by
  have hpn : p.n = P.length := by have := hp.n; simpa using this
  have hl8 := hB.1
  refine impl_active.calls l p ?_
  rw [impl_active.E_s, hpn, w64_succ (n := (P.length : Int)) (by omega) (by omega)]
  refine lit0 oneInt (B := w.heap.size) (Nat.le_refl _) ?_
  intro o0 w1 ho0 hg1 _
  refine impl_active.L3_rule _ _ _ _ _ _ _ (I := fun o k w' => 0 ≤ k ∧ k ≤ P.length + 1 ∧ OwnI w' w.heap.size o (sitesT LL P k.toNat) ∧ Below w.heap.size w w') (μ := fun _ k _ => (P.length + 1 - k).toNat) ⟨by omega, by omega, ho0, below_of_grow hg1⟩ ?_
  rintro o k w' ⟨h0, hk, ho, hb⟩
  rw [impl_active.B3_s]
  have hsl := sitesT_len LL P k.toNat
  refine bif_dec (fun h3 => ?_) (fun h3 => ?_)
  · obtain ⟨m, rfl⟩ : ∃ m : Nat, k = m := ⟨k.toNat, by omega⟩
    rw [Int.toNat_natCast] at ho hsl
    refine (c_child (hp.grow hb) (by omega) (i := m) (by omega)).mono ?_
    rintro e w2 ⟨c, rfl, hc, hb2⟩
    refine ⟨c, rfl, ?_⟩
    have hb12 := hb.trans (hb2.mono hb.size)
    refine (c_avoids (hl.grow hb12) hc.row (by rw [childW_length (by omega)]; omega) (by omega) (fun q hq => by have := hB.len q hq; omega)).mono ?_
    rintro e w3 ⟨rfl, hb3⟩
    refine ⟨_, rfl, ?_⟩
    have hb13 := hb12.trans (hb3.mono hb12.size)
    have ho3 := (ho.grow hb2).grow hb3
    have hsc : ((m : Int) + 1).toNat = m + 1 := by omega
    refine bif_intro (fun h4 => ?_) (fun h4 => ?_)
    · refine append_int ho3 hb13.size (by omega) ?_
      intro o' w4 ho4 hg4 _
      refine ⟨o', (m : Int) + 1, by rw [w64_succ h0 (by omega)], ⟨by omega, by omega, ?_, hb13.grown hg4 hb13.size (fun g hg => (ho3.lt g hg).1)⟩, by omega⟩
      rw [hsc, sitesT, if_pos h4]; exact ho4
    · refine ⟨o, (m : Int) + 1, by rw [w64_succ h0 (by omega)], ⟨by omega, by omega, ?_, hb13⟩, by omega⟩
      rw [hsc, sitesT, if_neg (by simp [h4])]; exact ho3
  · rw [impl_active.A3_0_s]
    rw [show k.toNat = P.length + 1 by omega] at ho
    exact ⟨o, rfl, ho, hb⟩
theorem c_l14Sites {w : World} {l p : Sl} {LL : List (List Int)} {P : List Int} (hl : RowSS w l LL) (hB : BasisOk LL) (hp : RowI w p P) (hP : P.length ≤ 7) :
    Calls PP F.spec_l14Sites #[l.v, p.v] w fun e w' => ∃ s : Sl, e = .returned s.v ∧ OwnI w' w.heap.size s (sitesV LL P) ∧ Below w.heap.size w w' := by
  have hpn : p.n = P.length := by have := hp.n; simpa using this
  have hl8 := hB.1
  refine spec_l14Sites.calls l p ?_
  rw [spec_l14Sites.E_s]
  refine lit0 oneInt (B := w.heap.size) (Nat.le_refl _) ?_
  intro o0 w1 ho0 hg1 _
  refine spec_l14Sites.L3_rule _ _ _ _ _ _ (I := fun o k w' => 0 ≤ k ∧ k ≤ P.length + 1 ∧ OwnI w' w.heap.size o (sitesT LL P k.toNat) ∧ Below w.heap.size w w') (μ := fun _ k _ => (P.length + 1 - k).toNat) ⟨by omega, by omega, ho0, below_of_grow hg1⟩ ?_
  rintro o k w' ⟨h0, hk, ho, hb⟩
  rw [spec_l14Sites.B3_s, hpn]
  have hsl := sitesT_len LL P k.toNat
  refine bif_dec (fun h3 => ?_) (fun h3 => ?_)
  · obtain ⟨m, rfl⟩ : ∃ m : Nat, k = m := ⟨k.toNat, by omega⟩
    rw [Int.toNat_natCast] at ho hsl
    refine (c_l14Child (hp.grow hb) (by omega) (i := m) (by omega)).mono ?_
    rintro e w2 ⟨c, rfl, hc, hb2⟩
    refine ⟨c, rfl, ?_⟩
    have hb12 := hb.trans (hb2.mono hb.size)
    refine (c_l12Avoids (hl.grow hb12) hc.row (by rw [childW_length (by omega)]; omega) (by omega) hB.len).mono ?_
    rintro e w3 ⟨rfl, hb3⟩
    refine ⟨_, rfl, ?_⟩
    have hb13 := hb12.trans (hb3.mono hb12.size)
    have ho3 := (ho.grow hb2).grow hb3
    have hsc : ((m : Int) + 1).toNat = m + 1 := by omega
    refine bif_intro (fun h4 => ?_) (fun h4 => ?_)
    · refine append_int ho3 hb13.size (by omega) ?_
      intro o' w4 ho4 hg4 _
      refine ⟨o', (m : Int) + 1, by rw [w64_succ h0 (by omega)], ⟨by omega, by omega, ?_, hb13.grown hg4 hb13.size (fun g hg => (ho3.lt g hg).1)⟩, by omega⟩
      rw [hsc, sitesT, if_pos h4]; exact ho4
    · refine ⟨o, (m : Int) + 1, by rw [w64_succ h0 (by omega)], ⟨by omega, by omega, ?_, hb13⟩, by omega⟩
      rw [hsc, sitesT, if_neg (by simp [h4])]; exact ho3
  · rw [spec_l14Sites.A3_0_s]
    rw [show k.toNat = P.length + 1 by omega] at ho
    exact ⟨o, rfl, ho, hb⟩

/-! ### children -/
theorem c_children {w : World} {l p : Sl} {LL : List (List Int)} {P : List Int} (hl : RowSS w l LL) (hB : BasisOk LL) (hp : RowI w p P) (hP : P.length ≤ 7) :
    Calls PP F.impl_children #[l.v, p.v] w fun e w' => ∃ s : Sl, e = .returned s.v ∧ OwnSS w' w.heap.size s (childrenV LL P) ∧ Below w.heap.size w w' := by
  refine impl_children.calls l p ?_
  rw [impl_children.E_s]
  refine lit0 oneSint (B := w.heap.size) (Nat.le_refl _) ?_
  intro o0 w1 ho0 hg1 _
  have hb1 := below_of_grow hg1
  refine (c_active (hl.grow hb1) hB (hp.grow hb1) hP).mono ?_
  rintro e w2 ⟨t, rfl, ht, hb12⟩
  refine ⟨t, rfl, ?_⟩
  have hb2 := hb1.trans (hb12.mono hb1.size)
  have htn : t.n = (sitesV LL P).length := by have := ht.n; simpa using this
  have hsl := sitesT_len LL P (P.length + 1)
  show impl_children.L3 std p o0 t (t.n : Int) 0 w2 _
  rw [htn]
  refine impl_children.L3_rule _ _ _ _ _ _ _ (I := fun o k w' => 0 ≤ k ∧ k ≤ (sitesV LL P).length ∧ Below w.heap.size w w' ∧ OwnI w' w1.heap.size t (sitesV LL P) ∧ OwnSS w' w.heap.size o (((sitesV LL P).take k.toNat).map fun i => childW P i.toNat)) (μ := fun _ k _ => ((sitesV LL P).length - k).toNat)
    ⟨by omega, by omega, hb2, ht, (OwnSS.nil ho0).grow hb12⟩ ?_
  rintro o k w' ⟨h0, hk, hb, htr, ho⟩
  rw [impl_children.B3_s]
  refine bif_dec (fun h3 => ?_) (fun h3 => ?_)
  · have hlt : k.toNat < (sitesV LL P).length := by omega
    refine RowI.get htr.row h0 (by omega) ?_
    rw [getD_lt hlt]
    have hm := sitesT_mem (List.getElem_mem hlt)
    obtain ⟨m, hm2⟩ : ∃ m : Nat, (sitesV LL P)[k.toNat] = m := ⟨(sitesV LL P)[k.toNat].toNat, by omega⟩
    rw [hm2] at hm ⊢
    refine (c_child (hp.grow hb) (by omega) (i := m) (by omega)).mono ?_
    rintro e w3 ⟨c, rfl, hc, hb3⟩
    refine ⟨c, rfl, ?_⟩
    have hb13 := hb.trans (hb3.mono hb.size)
    have hsl2 : (sitesV LL P).length ≤ 9 := Nat.le_trans hsl (by omega)
    refine append_new ho hb3 hb.size hc (by simp; omega) ?_
    intro o' w4 ho4 hg4 hn4
    refine ⟨o', k + 1, by rw [w64_succ h0 (by omega)], ⟨by omega, by omega, hb13.grown hg4 hb13.size (fun g hg => (ho.lt g hg).1), ?_, ?_⟩, by omega⟩
    · obtain ⟨rs, ho'⟩ := ho
      have htr3 := htr.grow hb3
      exact htr3.kept hg4 fun g e1 e2 => ((ho'.grow hb3).out.apt htr3 (by decide)) g e2 e1
    · rw [show (k + 1).toNat = k.toNat + 1 by omega, List.take_succ_eq_append_getElem hlt, List.map_append, hm2]
      exact ho4
  · rw [impl_children.A3_0_s]
    rw [show k.toNat = (sitesV LL P).length by omega, List.take_length] at ho
    exact ⟨o, rfl, ho, hb⟩
open Classical in
noncomputable def ActiveSitesV (LL : List (List Int)) (P : List Int) : List Int := if InCl LL P ∧ P.length < 8 then sitesV LL P else []
theorem ActiveSitesV_len (LL : List (List Int)) (P : List Int) : (ActiveSitesV LL P).length < 2^38 := by
  unfold ActiveSitesV
  split
  · rename_i h; have := sitesT_len LL P (P.length + 1); rw [sitesV]; omega
  · simp
open Classical in
theorem c_hasSites {w : World} {l p : Sl} {LL : List (List Int)} {P : List Int} (hl : RowSS w l LL) (hL : LL.length < 2^38) (ht : tot LL < 2^37) (hp : RowI w p P) (hP : P.length < 2^37) :
    Calls PP F.impl_hasSites #[l.v, p.v] w fun e w' => e = .returned (.bool (decide (InCl LL P ∧ P.length < 8))) ∧ Below w.heap.size w w' := by
  have hpn : p.n = P.length := by have := hp.n; simpa using this
  refine impl_hasSites.calls l p ?_
  rw [impl_hasSites.E_s, hpn]
  refine (c_implInClass hl hL ht hp hP).mono ?_
  rintro e w1 ⟨rfl, hb1⟩
  refine ⟨_, rfl, ?_⟩
  refine bif_intro (fun h => ?_) (fun h => ?_)
  · have h : InCl LL P := by simpa [InClassV] using h
    refine ⟨?_, hb1⟩
    congr 2
    by_cases h8 : P.length < 8
    · rw [decide_eq_true (by omega), decide_eq_true ⟨h, h8⟩]
    · rw [decide_eq_false (by omega), decide_eq_false (fun hh => h8 hh.2)]
  · have h : ¬ InCl LL P := by simpa [InClassV] using h
    exact ⟨by simp [h], hb1⟩
theorem c_implActiveSites {w : World} {l p : Sl} {LL : List (List Int)} {P : List Int} (hl : RowSS w l LL) (hL : LL.length < 2^38) (ht : tot LL < 2^37) (hp : RowI w p P) (hP : P.length < 2^37) :
    Calls PP F.impl_ActiveSites #[l.v, p.v] w fun e w' => ∃ s : Sl, e = .returned s.v ∧ OwnI w' w.heap.size s (ActiveSitesV LL P) ∧ Below w.heap.size w w' := by
  refine impl_ActiveSites.calls l p ?_
  rw [impl_ActiveSites.E_s]
  refine (c_hasSites hl hL ht hp hP).mono ?_
  rintro e w1 ⟨rfl, hb1⟩
  refine ⟨_, rfl, ?_⟩
  refine bif_intro (fun h => ?_) (fun h => ?_)
  · have h : ¬ (InCl LL P ∧ P.length < 8) := by simpa using h
    exact ⟨Sl.nil, rfl, by rw [ActiveSitesV, if_neg h]; exact Own.nil _ _ _, hb1⟩
  · have h : InCl LL P ∧ P.length < 8 := by simpa using h
    refine (c_active (hl.grow hb1) h.1.1 (hp.grow hb1) (by omega)).mono ?_
    rintro e w2 ⟨s, rfl, hs, hb2⟩
    exact ⟨s, rfl, s, rfl, by rw [ActiveSitesV, if_pos h]; exact hs.mono hb1.size, hb1.trans (hb2.mono hb1.size)⟩
theorem c_specActiveSites0 {w : World} {l p : Sl} {LL : List (List Int)} {P : List Int} (hl : RowSS w l LL) (hL : LL.length < 2^38) (ht : tot LL < 2^37) (hp : RowI w p P) (hP : P.length < 2^37) :
    Calls PP F.spec_ActiveSites #[l.v, p.v] w fun e w' => ∃ s : Sl, e = .returned s.v ∧ OwnI w' w.heap.size s (ActiveSitesV LL P) ∧ Below w.heap.size w w' := by
  have hpn : p.n = P.length := by have := hp.n; simpa using this
  refine spec_ActiveSites.calls l p ?_
  rw [spec_ActiveSites.E_s, hpn]
  refine (c_specInClass hl hL ht hp hP).mono ?_
  rintro e w1 ⟨rfl, hb1⟩
  refine ⟨_, rfl, ?_⟩
  have no : ¬ (InCl LL P ∧ P.length < 8) → sem1 .sl PP (Instr.buildSlice T_Sint 0 #[]) w1 fun (ρ : Sl) w2 => ∃ s : Sl, (Ending.returned ρ.v) = .returned s.v ∧ OwnI w2 w.heap.size s (ActiveSitesV LL P) ∧ Below w.heap.size w w2 := fun hn => by
    refine lit0 oneInt (B := w.heap.size) hb1.size ?_
    intro s w2 hs hg _
    exact ⟨s, rfl, by rw [ActiveSitesV, if_neg hn]; exact hs, hb1.grown hg hb1.size (by simp)⟩
  refine bif_intro (fun h => ?_) (fun h => ?_)
  · have h : ¬ InCl LL P := by simpa [InClassV] using h
    exact no fun hh => h hh.1
  have h : InCl LL P := by simpa [InClassV] using h
  have h8 := h.2.1.1
  refine bif_intro (fun h2 => ?_) (fun h2 => ?_)
  · have h2 : (P.length : Int) = 8 := by simpa using h2
    exact no fun hh => by omega
  have h2 : (P.length : Int) ≠ 8 := by simpa using h2
  refine (c_l14Sites (hl.grow hb1) h.1 (hp.grow hb1) (by omega)).mono ?_
  rintro e w2 ⟨s, rfl, hs, hb2⟩
  exact ⟨s, rfl, s, rfl, by rw [ActiveSitesV, if_pos ⟨h, by omega⟩]; exact hs.mono hb1.size, hb1.trans (hb2.mono hb1.size)⟩
theorem c_specActiveSites {w : World} {l p : Sl} {LL : List (List Int)} {P : List Int} (hl : RowSS w l LL) (hL : LL.length < 2^38) (ht : tot LL < 2^37) (hp : RowI w p P) (hP : P.length < 2^37) :
    Calls PP F.spec_ActiveSites #[l.v, p.v] w fun e w' => ∃ s : Sl, e = .returned s.v ∧ RowI w' s (ActiveSitesV LL P) ∧ Below w.heap.size w w' :=
  (c_specActiveSites0 hl hL ht hp hP).mono fun e w' ⟨s, h1, h2, h3⟩ => ⟨s, h1, h2.row, h3⟩
/-! ### LabelOf -/
open Classical in
noncomputable def LabelOfV (LL : List (List Int)) (P : List Int) : Int := if InCl LL P ∧ P.length < 8 then ((sitesV LL P).length : Int) else -1
/-! ### ChildrenOf -/
open Classical in
noncomputable def ChildrenOfV (LL : List (List Int)) (P : List Int) : List (List Int) := if InCl LL P ∧ P.length < 8 then childrenV LL P else []
theorem childrenV_len (LL : List (List Int)) (P : List Int) : (childrenV LL P).length ≤ P.length + 1 := by
  rw [childrenV, List.length_map]; exact sitesT_len LL P (P.length + 1)
theorem childrenV_mem {LL : List (List Int)} {P q : List Int} (h : q ∈ childrenV LL P) : ∃ i : Nat, i ≤ P.length ∧ q = childW P i ∧ avoidsV LL q = true := by
  rw [childrenV, List.mem_map] at h
  obtain ⟨x, hx, rfl⟩ := h
  have := sitesT_mem hx
  exact ⟨x.toNat, by omega, rfl, this.2.2⟩
theorem tot_le_mul' {l : List (List Int)} {n : Nat} (h : ∀ p ∈ l, p.length ≤ n) : tot l ≤ l.length * n := by
  induction l with
  | nil => simp [tot]
  | cons x r ih =>
    have h1 := h x (by simp)
    have h2 := ih (fun p hp => h p (by simp [hp]))
    rw [tot_cons, List.length_cons, Nat.succ_mul]; omega
theorem ChildrenOfV_len (LL : List (List Int)) (P : List Int) : (ChildrenOfV LL P).length < 2^38 ∧ tot (ChildrenOfV LL P) < 2^38 := by
  unfold ChildrenOfV
  split
  · rename_i h
    have h1 := childrenV_len LL P
    have h2 : tot (childrenV LL P) ≤ (childrenV LL P).length * 9 := tot_le_mul' fun q hq => by
      obtain ⟨i, hi, rfl, _⟩ := childrenV_mem hq
      rw [childW_length hi]; omega
    omega
  · simp [tot]
theorem c_implChildrenOf {w : World} {l p : Sl} {LL : List (List Int)} {P : List Int} (hl : RowSS w l LL) (hL : LL.length < 2^38) (ht : tot LL < 2^37) (hp : RowI w p P) (hP : P.length < 2^37) :
    Calls PP F.impl_ChildrenOf #[l.v, p.v] w fun e w' => ∃ s : Sl, e = .returned s.v ∧ OwnSS w' w.heap.size s (ChildrenOfV LL P) ∧ Below w.heap.size w w' := by
  refine impl_ChildrenOf.calls l p ?_
  rw [impl_ChildrenOf.E_s]
  refine (c_hasSites hl hL ht hp hP).mono ?_
  rintro e w1 ⟨rfl, hb1⟩
  refine ⟨_, rfl, ?_⟩
  refine bif_intro (fun h => ?_) (fun h => ?_)
  · have h : ¬ (InCl LL P ∧ P.length < 8) := by simpa using h
    exact ⟨Sl.nil, rfl, by rw [ChildrenOfV, if_neg h]; exact OwnSS.none _ _, hb1⟩
  · have h : InCl LL P ∧ P.length < 8 := by simpa using h
    refine (c_children (hl.grow hb1) h.1.1 (hp.grow hb1) (by omega)).mono ?_
    rintro e w2 ⟨s, rfl, hs, hb2⟩
    exact ⟨s, rfl, s, rfl, by rw [ChildrenOfV, if_pos h]; exact hs.mono hb1.size, hb1.trans (hb2.mono hb1.size)⟩
theorem c_specChildrenOf0 {w : World} {l p : Sl} {LL : List (List Int)} {P : List Int} (hl : RowSS w l LL) (hL : LL.length < 2^38) (ht : tot LL < 2^37) (hp : RowI w p P) (hP : P.length < 2^37) :
    Calls PP F.spec_ChildrenOf #[l.v, p.v] w fun e w' => ∃ s : Sl, e = .returned s.v ∧ OwnSS w' w.heap.size s (ChildrenOfV LL P) ∧ Below w.heap.size w w' := by
  refine spec_ChildrenOf.calls l p ?_
  rw [spec_ChildrenOf.E_s]
  refine lit0 oneSint (B := w.heap.size) (Nat.le_refl _) ?_
  intro o0 w1 ho0 hg1 _
  have hb1 := below_of_grow hg1
  refine (c_specActiveSites0 (hl.grow hb1) hL ht (hp.grow hb1) hP).mono ?_
  rintro e w2 ⟨t, rfl, htr0, hb12⟩
  refine ⟨t, rfl, ?_⟩
  have hb2 := hb1.trans (hb12.mono hb1.size)
  have htn : t.n = (ActiveSitesV LL P).length := by have := htr0.n; simpa using this
  have hV : ChildrenOfV LL P = (ActiveSitesV LL P).map fun i => childW P i.toNat := by
    unfold ChildrenOfV ActiveSitesV
    split <;> simp [childrenV]
  have hmem : ∀ x ∈ ActiveSitesV LL P, P.length < 8 ∧ 0 ≤ x ∧ x < ((P.length + 1 : Nat) : Int) := fun x hx => by
    unfold ActiveSitesV at hx
    split at hx
    · rename_i h; have := sitesT_mem hx; exact ⟨h.2, this.1, this.2.1⟩
    · simp at hx
  have hlen9 : (ActiveSitesV LL P).length ≤ 9 := by
    unfold ActiveSitesV
    split
    · rename_i h; have := sitesT_len LL P (P.length + 1); rw [sitesV]; omega
    · simp
  refine spec_ChildrenOf.L4_rule _ _ _ _ _ _ (I := fun o k w' => 0 ≤ k ∧ k ≤ (ActiveSitesV LL P).length ∧ Below w.heap.size w w' ∧ OwnI w' w1.heap.size t (ActiveSitesV LL P) ∧ OwnSS w' w.heap.size o (((ActiveSitesV LL P).take k.toNat).map fun i => childW P i.toNat)) (μ := fun _ k _ => ((ActiveSitesV LL P).length - k).toNat)
    ⟨by omega, by omega, hb2, htr0, (OwnSS.nil ho0).grow hb12⟩ ?_
  rintro o k w' ⟨h0, hk, hb, htr, ho⟩
  rw [spec_ChildrenOf.B4_s, htn]
  refine bif_dec (fun h3 => ?_) (fun h3 => ?_)
  · have hlt : k.toNat < (ActiveSitesV LL P).length := by omega
    refine RowI.get htr.row h0 (by omega) ?_
    rw [getD_lt hlt]
    have hm := hmem _ (List.getElem_mem hlt)
    obtain ⟨m, hm2⟩ : ∃ m : Nat, (ActiveSitesV LL P)[k.toNat] = m := ⟨(ActiveSitesV LL P)[k.toNat].toNat, by omega⟩
    rw [hm2] at hm ⊢
    refine (c_l14Child (hp.grow hb) (by omega) (i := m) (by omega)).mono ?_
    rintro e w3 ⟨c, rfl, hc, hb3⟩
    refine ⟨c, rfl, ?_⟩
    have hb13 := hb.trans (hb3.mono hb.size)
    refine append_new ho hb3 hb.size hc (by simp; omega) ?_
    intro o' w4 ho4 hg4 hn4
    refine ⟨o', k + 1, by rw [w64_succ h0 (by omega)], ⟨by omega, by omega, hb13.grown hg4 hb13.size (fun g hg => (ho.lt g hg).1), ?_, ?_⟩, by omega⟩
    · obtain ⟨rs, ho'⟩ := ho
      have htr3 := htr.grow hb3
      exact htr3.kept hg4 fun g e1 e2 => ((ho'.grow hb3).out.apt htr3 (by decide)) g e2 e1
    · rw [show (k + 1).toNat = k.toNat + 1 by omega, List.take_succ_eq_append_getElem hlt, List.map_append, hm2]
      exact ho4
  · rw [spec_ChildrenOf.A4_0_s]
    rw [show k.toNat = (ActiveSitesV LL P).length by omega, List.take_length] at ho
    exact ⟨o, rfl, by rw [hV]; exact ho, hb⟩
theorem c_specChildrenOf {w : World} {l p : Sl} {LL : List (List Int)} {P : List Int} (hl : RowSS w l LL) (hL : LL.length < 2^38) (ht : tot LL < 2^37) (hp : RowI w p P) (hP : P.length < 2^37) :
    Calls PP F.spec_ChildrenOf #[l.v, p.v] w fun e w' => ∃ s : Sl, e = .returned s.v ∧ RowSS w' s (ChildrenOfV LL P) ∧ Below w.heap.size w w' :=
  (c_specChildrenOf0 hl hL ht hp hP).mono fun e w' ⟨s, h1, h2, h3⟩ => ⟨s, h1, h2.row, h3⟩
end Go.Proofs.Yteplokddaebbeaa

/- Small things that the counts of classes share. -/
namespace Go.Proofs.Yteplokddaebbeaa
open Go Go.RowKit
set_option maxRecDepth 100000

theorem oneSSint : OneT T_SSSint T_SSint Sl.nil.v := oneT_of (by kernel_rfl) (by kernel_rfl) rfl
theorem ne_SS_S : T_SSint ≠ T_Sint := by decide
theorem ne_SS_int : T_SSint ≠ T_int := by decide
theorem flat_snoc' {α β : Type} (l : List α) (x : α) (f : α → List β) : (l ++ [x]).flatMap f = l.flatMap f ++ f x := by simp
theorem avoids_nil {LL : List (List Int)} (h : BasisOk LL) : avoidsV LL [] = true := by
  have : (LL.any fun q => hasP [] q) = false := by
    rw [List.any_eq_false]
    intro q hq hh
    obtain ⟨i, hi, rfl⟩ := List.getElem_of_mem hq
    have hne := (h.2 i hi).ne
    rw [getD_SS hi] at hne
    have := hasB_room _ _ (Places.nil []) hh
    have h0 : 0 < LL[i].length := List.length_pos_iff.2 hne
    have h5 : lastD [] = 0 := rfl
    rw [h5] at this
    simp only [List.length_nil] at this
    omega
  simp [avoidsV, this]
theorem OwnSS.one_nil {w w2 : World} {B : Nat} {s0 t0 : Sl} (h0 : OwnI w B s0 []) (ht0 : Own w2 B T_Sint t0 [s0.v]) (hg : w.grownBy w2 Option.none) : OwnSS w2 B t0 [[]] := by
  refine ⟨[s0], ht0, rfl, fun i r L e1 e2 => ?_, fun i j r t hij e1 e2 => ?_⟩
  · cases i with
    | zero => simp at e1 e2; subst e1 e2; exact h0.kept hg (fun _ _ => by simp)
    | succ i => simp at e1
  · cases i with
    | zero => cases j with
      | zero => exact absurd rfl hij
      | succ j => simp at e2
    | succ i => simp at e1
def CntOk (LL : List (List Int)) (n : Int) : Prop := BasisOk LL ∧ 0 ≤ n ∧ n ≤ 6
theorem c_six {n : Int} {K : Bool → Prop} (hk : K (decide (0 ≤ n) && decide (n ≤ 6))) : pcall1 .bool PP F.impl_isSix #[vI n] K := Pure.pcall1 (s := .bool) (c_isSix' n) hk
end Go.Proofs.Yteplokddaebbeaa

/- What each function does, step by step, written by a program (Gen.lean); each equation is checked by the kernel. -/
namespace Go.Proofs.Yteplokddaebbeaa
open Go
set_option linter.unusedVariables false
set_option maxRecDepth 100000
end Go.Proofs.Yteplokddaebbeaa

/- The places of the lows: both texts. -/
namespace Go.Proofs.Yteplokddaebbeaa
open Go Go.RowKit
set_option maxRecDepth 100000

/-- Is no earlier number less? -/
def isLow (L : List Int) (i : Nat) : Bool := (List.range i).all fun j => !decide (L.getD j 0 < L.getD i 0)
theorem isLow_iff {L : List Int} {i : Nat} : isLow L i = true ↔ ∀ j, j < i → ¬ L.getD j 0 < L.getD i 0 := by simp [isLow]
def lowsT (L : List Int) : Nat → List Int
  | 0 => []
  | k + 1 => if isLow L k then lowsT L k ++ [(k : Int) + 1] else lowsT L k
theorem lowsT_length (L : List Int) : ∀ k, (lowsT L k).length ≤ k
  | 0 => by simp [lowsT]
  | k + 1 => by
    have := lowsT_length L k
    rw [lowsT]
    split
    · simp; omega
    · omega
theorem mem_lowsT {L : List Int} : ∀ {k : Nat} {x : Int}, x ∈ lowsT L k ↔ 1 ≤ x ∧ x ≤ k ∧ isLow L (x - 1).toNat = true
  | 0, x => by simp [lowsT]; omega
  | k + 1, x => by
    rw [lowsT]
    have ih := mem_lowsT (L := L) (k := k) (x := x)
    split
    · rename_i h
      rw [List.mem_append, ih]
      simp only [List.mem_singleton]
      constructor
      · rintro (⟨h1, h2, h3⟩ | rfl)
        · exact ⟨h1, by omega, h3⟩
        · exact ⟨by omega, by omega, by rw [show ((k : Int) + 1 - 1).toNat = k by omega]; exact h⟩
      · rintro ⟨h1, h2, h3⟩
        by_cases e : x = (k : Int) + 1
        · exact .inr e
        · exact .inl ⟨h1, by omega, h3⟩
    · rename_i h
      rw [ih]
      constructor
      · rintro ⟨h1, h2, h3⟩; exact ⟨h1, by omega, h3⟩
      · rintro ⟨h1, h2, h3⟩
        refine ⟨h1, ?_, h3⟩
        by_cases e : x = (k : Int) + 1
        · subst e
          rw [show ((k : Int) + 1 - 1).toNat = k by omega] at h3
          exact absurd h3 h
        · omega
open Classical in
noncomputable def LowsV (L : List Int) : List Int := if IsP L then lowsT L L.length else []
/-- The least of the first k. -/
def leastT (L : List Int) : Nat → Int
  | 0 => (L.length : Int) + 1
  | k + 1 => if L.getD k 0 < leastT L k then L.getD k 0 else leastT L k
theorem leastT_le (L : List Int) : ∀ k j, j < k → leastT L k ≤ L.getD j 0
  | k + 1, j, hj => by
    rw [leastT]
    by_cases e : j = k
    · subst e; split <;> omega
    · have := leastT_le L k j (by omega)
      split <;> omega
theorem leastT_mem (L : List Int) : ∀ k, leastT L k = (L.length : Int) + 1 ∨ ∃ j, j < k ∧ leastT L k = L.getD j 0
  | 0 => .inl rfl
  | k + 1 => by
    rw [leastT]
    split
    · exact .inr ⟨k, by omega, rfl⟩
    · rcases leastT_mem L k with h | ⟨j, h1, h2⟩
      · exact .inl h
      · exact .inr ⟨j, by omega, h2⟩
theorem low_least {L : List Int} (h : IsP L) {k : Nat} (hk : k < L.length) : L.getD k 0 < leastT L k ↔ isLow L k = true := by
  rw [isLow_iff]
  constructor
  · intro h1 j hj h2
    have := leastT_le L k j hj
    omega
  · intro h1
    rcases leastT_mem L k with h2 | ⟨j, h2, h3⟩
    · have := (h.2 k hk).2.1; omega
    · have := h1 j h2
      have := (h.2 k hk).2.2 j h2
      omega

end Go.Proofs.Yteplokddaebbeaa

/- What each function does, step by step, written by a program (Gen.lean); each equation is checked by the kernel. -/
namespace Go.Proofs.Yteplokddaebbeaa
open Go
set_option linter.unusedVariables false
set_option maxRecDepth 100000
end Go.Proofs.Yteplokddaebbeaa

/- What each function does, step by step, written by a program (Gen.lean); each equation is checked by the kernel. -/
namespace Go.Proofs.Yteplokddaebbeaa
open Go
set_option linter.unusedVariables false
set_option maxRecDepth 100000
end Go.Proofs.Yteplokddaebbeaa

/- The laws' helpers over rows of rows: comparison, marks. -/
namespace Go.Proofs.Yteplokddaebbeaa
open Go Go.RowKit
set_option maxRecDepth 100000

def marksSS (k : Int) : List (List Int) → List (List Int)
  | [] => []
  | L :: r => marks k L.length :: marksSS (k + L.length) r
theorem marksSS_length : ∀ (LL : List (List Int)) (k : Int), (marksSS k LL).length = LL.length
  | [], _ => rfl
  | L :: r, k => by simp [marksSS, marksSS_length r]
theorem marksSS_append : ∀ (A B : List (List Int)) (k : Int), marksSS k (A ++ B) = marksSS k A ++ marksSS (k + tot A) B
  | [], B, k => by simp [marksSS, tot_nil]
  | L :: r, B, k => by
    simp only [List.cons_append, marksSS, marksSS_append r B, tot_cons, List.cons.injEq, true_and]
    congr 2; omega
theorem marksSS_step {LL : List (List Int)} (k : Int) {i : Nat} (h : i < LL.length) :
    (marksSS k (LL.take i) ++ LL.drop i).set i (marks (k + tot (LL.take i)) (LL.getD i []).length) = marksSS k (LL.take (i + 1)) ++ LL.drop (i + 1) := by
  have h1 : LL.drop i = LL[i] :: LL.drop (i + 1) := by rw [List.drop_eq_getElem_cons h]
  have h2 : (marksSS k (LL.take i)).length = i := by rw [marksSS_length]; simp; omega
  rw [h1, List.set_append_right _ _ (by omega), h2, Nat.sub_self, List.set_cons_zero, List.take_succ_eq_append_getElem h, marksSS_append, List.append_assoc, getD_SS h]
  rfl
theorem marksSS_at {LL : List (List Int)} (k : Int) {i : Nat} (h : i < LL.length) : (marksSS k (LL.take i) ++ LL.drop i).getD i [] = LL.getD i [] := by
  have h2 : (marksSS k (LL.take i)).length = i := by rw [marksSS_length]; simp; omega
  rw [List.getD_eq_getElem?_getD, List.getElem?_append_right (by omega), h2, Nat.sub_self, List.getElem?_drop, List.getD_eq_getElem?_getD]
  simp
theorem marksSS_getD : ∀ {LL : List (List Int)} (k : Int) {i : Nat}, i < LL.length → (marksSS k LL).getD i [] = marks (k + tot (LL.take i)) (LL.getD i []).length
  | [], k, i, h => by simp at h
  | L :: r, k, 0, _ => by simp [marksSS, tot_nil]
  | L :: r, k, i + 1, h => by
    have := marksSS_getD (LL := r) (k + L.length) (i := i) (by simpa using h)
    simp only [List.getD_eq_getElem?_getD, marksSS, List.getElem?_cons_succ, List.take_succ_cons, tot_cons] at this ⊢
    rw [this]; congr 1; omega

end Go.Proofs.Yteplokddaebbeaa

/- The laws' helpers over rows of rows: sizes and copies. -/
namespace Go.Proofs.Yteplokddaebbeaa
open Go Go.RowKit
set_option maxRecDepth 100000

def szI (n : Nat) (left : Int) : Int := if left - n < 0 then -1 else left - n
def szW (LL : List (List Int)) (left : Int) : Int := if (LL.length : Int) + tot LL ≤ left then left - ((LL.length : Int) + tot LL) else -1
theorem szW_ok {LL : List (List Int)} {left : Int} (h0 : 0 ≤ left) (h : ¬ szW LL left < 0) : (LL.length : Int) + tot LL ≤ left ∧ szW LL left = left - ((LL.length : Int) + tot LL) := by
  unfold szW at h ⊢
  split at h
  · rename_i h1; exact ⟨h1, by rw [if_pos h1]⟩
  · omega
theorem OwnRows.replicate {w B s n} (h : Own w B T_Sint s (List.replicate n Sl.nil.v)) : OwnRows w B s (List.replicate n Sl.nil) (List.replicate n []) := by
  refine ⟨by simpa using h, by simp, fun i r L e1 e2 => ?_, fun i j r t _ e1 e2 g hg => ?_⟩
  · rw [List.getElem?_replicate] at e1 e2
    split at e1
    · split at e2
      · simp only [Option.some.injEq] at e1 e2; subst e1 e2; exact Own.nil _ _ _
      · omega
    · cases e1
  · rw [List.getElem?_replicate] at e1
    split at e1
    · simp only [Option.some.injEq] at e1; subst e1; simp [Sl.blk, Sl.nil] at hg
    · cases e1
end Go.Proofs.Yteplokddaebbeaa

/- LeafCount, LowCounts, LevelSizes: both texts, and the laws. -/
namespace Go.Proofs.Yteplokddaebbeaa
open Go Go.RowKit
set_option maxRecDepth 100000

open Classical in
noncomputable def LeafCountV (LL : List (List Int)) (n : Int) : Int := if CntOk LL n then ((classV LL n.toNat).countP (fun p => (sitesV LL p).isEmpty) : Int) else -1
theorem countP_snoc {l : List (List Int)} {i : Nat} (hi : i < l.length) (φ : List Int → Bool) : (l.take (i + 1)).countP φ = (l.take i).countP φ + if φ l[i] = true then 1 else 0 := by
  rw [List.take_succ_eq_append_getElem hi, List.countP_append, List.countP_singleton]
theorem c_implLeafCount {w : World} {l : Sl} {LL : List (List Int)} (hl : RowSS w l LL) (hL : LL.length < 2^38) (ht : tot LL < 2^37) (n : Int) :
    Calls PP F.impl_LeafCount #[l.v, vI n] w fun e w' => e = .returned (vI (LeafCountV LL n)) ∧ Below w.heap.size w w' := by
  refine impl_LeafCount.calls l n ?_
  rw [impl_LeafCount.E_s]
  refine (c_implIsBasis hl hL ht).mono ?_
  rintro e w1 ⟨rfl, hb1⟩
  refine ⟨_, rfl, ?_⟩
  refine bif_intro (fun h => ?_) (fun h => ?_)
  · have h : ¬ BasisOk LL := by simpa [IsBasisV] using h
    exact ⟨by rw [LeafCountV, if_neg (fun hh => h hh.1)], hb1⟩
  have hB : BasisOk LL := by simpa [IsBasisV] using h
  refine c_six ?_
  refine bif_intro (fun h => ?_) (fun h => ?_)
  · have h : ¬ (0 ≤ n ∧ n ≤ 6) := by simp at h; omega
    exact ⟨by rw [LeafCountV, if_neg (fun hh => h hh.2)], hb1⟩
  have hn : 0 ≤ n ∧ n ≤ 6 := by simpa using h
  have hV : LeafCountV LL n = ((classV LL n.toNat).countP (fun p => (sitesV LL p).isEmpty) : Int) := by rw [LeafCountV, if_pos ⟨hB, hn⟩]
  rw [hV]
  obtain ⟨n, rfl⟩ : ∃ m : Nat, n = m := ⟨n.toNat, by omega⟩
  rw [Int.toNat_natCast]
  refine (c_class (hl.grow hb1) hB n (by omega)).mono ?_
  rintro e w2 ⟨t, rfl, hto, hb12⟩
  refine ⟨t, rfl, ?_⟩
  have hb2 := hb1.trans (hb12.mono hb1.size)
  have htn := hto.row.n
  have hcl := classV_len (LL := LL) (n := n) (by omega)
  refine impl_LeafCount.L5_rule _ _ _ _ _ _ _ (I := fun m i w' => 0 ≤ i ∧ i ≤ (classV LL n).length ∧ Below w2.heap.size w2 w' ∧ m = (((classV LL n).take i.toNat).countP (fun p => (sitesV LL p).isEmpty) : Int)) (μ := fun _ i _ => ((classV LL n).length - i).toNat)
    ⟨by omega, by omega, Below.refl _ _, rfl⟩ ?_
  rintro m i w' ⟨hi0, hi, hb, hm⟩
  rw [impl_LeafCount.B5_s, htn]
  have hle : ((classV LL n).take i.toNat).countP (fun p => (sitesV LL p).isEmpty) ≤ 46656 := Nat.le_trans List.countP_le_length (by rw [List.length_take]; omega)
  refine bif_dec (fun h3 => ?_) (fun h3 => ?_)
  · have hlt : i.toNat < (classV LL n).length := by omega
    refine RowSS.get (hto.row.grow hb) hi0 (by omega) fun r hr => ?_
    rw [getD_SS hlt] at hr
    have hpl := permsV_len (classV_mem (List.getElem_mem hlt)).1
    refine (c_active (hl.grow (hb2.trans (hb.mono hb2.size))) hB hr (by omega)).mono ?_
    rintro e w3 ⟨u, rfl, hu, hb3⟩
    refine ⟨u, rfl, ?_⟩
    have hun : u.n = (sitesV LL (classV LL n)[i.toNat]).length := by have := hu.n; simpa using this
    simp only [hun]
    have hb13 := hb.trans (hb3.mono hb.size)
    have hst := countP_snoc hlt (fun p => (sitesV LL p).isEmpty)
    rw [show i.toNat + 1 = (i + 1).toNat by omega] at hst
    refine bif_intro (fun h4 => ?_) (fun h4 => ?_)
    · have h4 : (sitesV LL (classV LL n)[i.toNat]).isEmpty = true := by simpa using h4
      refine ⟨m + 1, i + 1, by rw [w64_succ hi0 (by omega), w64_succ (by omega) (by omega)], ⟨by omega, by omega, hb13, ?_⟩, by omega⟩
      rw [hst, if_pos h4]; omega
    · have h4 : ¬ (sitesV LL (classV LL n)[i.toNat]).isEmpty = true := by simpa using h4
      refine ⟨m, i + 1, by rw [w64_succ hi0 (by omega)], ⟨by omega, by omega, hb13, ?_⟩, by omega⟩
      rw [hst, if_neg h4]; omega
  · rw [impl_LeafCount.A5_0_s]
    rw [show i.toNat = (classV LL n).length by omega, List.take_length] at hm
    exact ⟨by rw [hm], hb2.trans (hb.mono hb2.size)⟩
theorem c_specLeafCount {w : World} {l : Sl} {LL : List (List Int)} (hl : RowSS w l LL) (hL : LL.length < 2^38) (ht : tot LL < 2^37) (n : Int) :
    Calls PP F.spec_LeafCount #[l.v, vI n] w fun e w' => e = .returned (vI (LeafCountV LL n)) ∧ Below w.heap.size w w' := by
  refine spec_LeafCount.calls l n ?_
  rw [spec_LeafCount.E_s]
  refine (c_specIsBasis hl hL ht).mono ?_
  rintro e w1 ⟨rfl, hb1⟩
  refine ⟨_, rfl, ?_⟩
  refine bif_intro (fun h => ?_) (fun h => ?_)
  · have h : ¬ BasisOk LL := by simpa [IsBasisV] using h
    exact ⟨by rw [LeafCountV, if_neg (fun hh => h hh.1)], hb1⟩
  have hB : BasisOk LL := by simpa [IsBasisV] using h
  refine Pure.pcall1 (s := .bool) (c_l1In n 0 6) ?_
  refine bif_intro (fun h => ?_) (fun h => ?_)
  · have h : ¬ (0 ≤ n ∧ n ≤ 6) := by simp at h; omega
    exact ⟨by rw [LeafCountV, if_neg (fun hh => h hh.2)], hb1⟩
  have hn : 0 ≤ n ∧ n ≤ 6 := by simpa using h
  have hV : LeafCountV LL n = ((classV LL n.toNat).countP (fun p => (sitesV LL p).isEmpty) : Int) := by rw [LeafCountV, if_pos ⟨hB, hn⟩]
  have hC : ClassOfV LL n = classV LL n.toNat := by rw [ClassOfV, if_pos ⟨hB, hn⟩]
  rw [hV]
  obtain ⟨n, rfl⟩ : ∃ m : Nat, n = m := ⟨n.toNat, by omega⟩
  rw [Int.toNat_natCast] at hC ⊢
  refine (c_ClassOf (hl.grow hb1) hL ht n).mono ?_
  rintro e w2 ⟨t, rfl, hto, hb12⟩
  refine ⟨t, rfl, ?_⟩
  rw [hC] at hto
  have hb2 := hb1.trans (hb12.mono hb1.size)
  have htn := hto.row.n
  have hcl := classV_len (LL := LL) (n := n) (by omega)
  refine spec_LeafCount.L6_rule _ _ _ _ _ _ (I := fun m i w' => 0 ≤ i ∧ i ≤ (classV LL n).length ∧ Below w2.heap.size w2 w' ∧ m = (((classV LL n).take i.toNat).countP (fun p => (sitesV LL p).isEmpty) : Int)) (μ := fun _ i _ => ((classV LL n).length - i).toNat)
    ⟨by omega, by omega, Below.refl _ _, rfl⟩ ?_
  rintro m i w' ⟨hi0, hi, hb, hm⟩
  rw [spec_LeafCount.B6_s, htn]
  have hle : ((classV LL n).take i.toNat).countP (fun p => (sitesV LL p).isEmpty) ≤ 46656 := Nat.le_trans List.countP_le_length (by rw [List.length_take]; omega)
  refine bif_dec (fun h3 => ?_) (fun h3 => ?_)
  · have hlt : i.toNat < (classV LL n).length := by omega
    refine RowSS.get (hto.row.grow hb) hi0 (by omega) fun r hr => ?_
    rw [getD_SS hlt] at hr
    have hpl := permsV_len (classV_mem (List.getElem_mem hlt)).1
    refine (c_l14Sites (hl.grow (hb2.trans (hb.mono hb2.size))) hB hr (by omega)).mono ?_
    rintro e w3 ⟨u, rfl, hu, hb3⟩
    refine ⟨u, rfl, ?_⟩
    have hun : u.n = (sitesV LL (classV LL n)[i.toNat]).length := by have := hu.n; simpa using this
    simp only [hun]
    refine Pure.pcall1 (s := .int .i64) (c_l1Bit _) ?_
    have hb13 := hb.trans (hb3.mono hb.size)
    have hst := countP_snoc hlt (fun p => (sitesV LL p).isEmpty)
    rw [show i.toNat + 1 = (i + 1).toNat by omega] at hst
    refine ⟨m + if (sitesV LL (classV LL n)[i.toNat]).isEmpty = true then 1 else 0, i + 1, ?_, ⟨by omega, by omega, hb13, by rw [hst, hm]; split <;> omega⟩, by omega⟩
    rw [w64_succ hi0 (by omega)]
    congr 1
    by_cases h5 : (sitesV LL (classV LL n)[i.toNat]).isEmpty = true
    · rw [if_pos h5, if_pos (by simpa using h5), w64_succ (by omega) (by omega)]
    · rw [if_neg h5, if_neg (by simpa using h5), w64_id (by omega) (by omega)]
  · rw [spec_LeafCount.A6_0_s]
    rw [show i.toNat = (classV LL n).length by omega, List.take_length] at hm
    exact ⟨by rw [hm], hb2.trans (hb.mono hb2.size)⟩

/-! ### LowCounts -/
def lcStep (acc : List Int) (p : List Int) : List Int := acc.set (lowsT p p.length).length (acc.getD (lowsT p p.length).length 0 + 1)
def lcW (n : Nat) (l : List (List Int)) : List Int := l.foldl lcStep (List.replicate (n + 1) 0)
theorem lcW_snoc (n : Nat) (l : List (List Int)) (p : List Int) : lcW n (l ++ [p]) = lcStep (lcW n l) p := by simp [lcW, List.foldl_append]
theorem lcW_facts (n : Nat) : ∀ (k : Nat) (l : List (List Int)), l.length = k → (lcW n l).length = n + 1 ∧ ∀ i, 0 ≤ (lcW n l).getD i 0 ∧ (lcW n l).getD i 0 ≤ k := by
  intro k
  induction k with
  | zero =>
    intro l hl
    have : l = [] := List.eq_nil_of_length_eq_zero hl
    subst this
    refine ⟨by simp [lcW], fun i => ?_⟩
    simp only [lcW, List.foldl_nil, List.getD_eq_getElem?_getD, List.getElem?_replicate]
    split <;> simp
  | succ k ih =>
    intro l hl
    obtain ⟨M, p, rfl⟩ : ∃ M p, l = M ++ [p] := ⟨l.dropLast, l.getLast (by rintro rfl; simp at hl), (List.dropLast_concat_getLast _).symm⟩
    obtain ⟨h1, h2⟩ := ih M (by simpa using hl)
    rw [lcW_snoc, lcStep]
    refine ⟨by simp [h1], fun i => ?_⟩
    have h3 := h2 i
    have h4 := h2 (lowsT p p.length).length
    simp only [List.getD_eq_getElem?_getD, List.getElem?_set] at h3 h4 ⊢
    split
    · rename_i e
      split
      · simp only [Option.getD_some]; omega
      · simp; omega
    · omega
open Classical in
noncomputable def LowCountsV (LL : List (List Int)) (n : Int) : List Int := if CntOk LL n then lcW n.toNat (classV LL n.toNat) else []
theorem LowCountsV_len (LL : List (List Int)) (n : Int) : (LowCountsV LL n).length < 2^38 := by
  unfold LowCountsV
  split
  · rename_i h
    have := (lcW_facts n.toNat _ (classV LL n.toNat) rfl).1
    have := h.2
    omega
  · simp
end Go.Proofs.Yteplokddaebbeaa

/- LevelSizes: both texts, and the law. -/
namespace Go.Proofs.Yteplokddaebbeaa
open Go Go.RowKit
set_option maxRecDepth 100000

/-- The levels of the tree. -/
def levV (LL : List (List Int)) : Nat → List (List Int)
  | 0 => [[]]
  | k + 1 => (levV LL k).flatMap (childrenV LL)
theorem lev_mem {LL : List (List Int)} (h : BasisOk LL) : ∀ k, k ≤ 8 → ∀ p ∈ levV LL k, p.length = k ∧ IsP p ∧ avoidsV LL p = true
  | 0, _, p, hp => by
    simp [levV] at hp; subst hp
    exact ⟨rfl, ⟨by simp, fun j hj => by simp at hj⟩, avoids_nil h⟩
  | k + 1, hk, p, hp => by
    rw [levV, List.mem_flatMap] at hp
    obtain ⟨q, hq, hp⟩ := hp
    obtain ⟨h1, h2, h3⟩ := lev_mem h k (by omega) q hq
    obtain ⟨i, hi, rfl, h4⟩ := childrenV_mem hp
    exact ⟨by rw [childW_length hi, h1], childW_isP h2 (by omega) hi, h4⟩
theorem lev_len {LL : List (List Int)} (h : BasisOk LL) : ∀ k, k ≤ 7 → (levV LL k).length ≤ 8 ^ k
  | 0, _ => by simp [levV]
  | k + 1, hk => by
    have h1 := lev_len h k (by omega)
    have h2 := length_flatMap_le (levV LL k) (childrenV LL) 8 (fun p hp => by
      have := (lev_mem h k (by omega) p hp).1
      have := childrenV_len LL p
      omega)
    rw [levV, Nat.pow_succ]
    omega
theorem lev_len7 {LL : List (List Int)} (h : BasisOk LL) {k : Nat} (hk : k ≤ 7) : (levV LL k).length ≤ 2097152 :=
  Nat.le_trans (lev_len h k hk) (Nat.le_trans (Nat.pow_le_pow_right (by omega) hk) (by decide))
theorem flat_take_len {LL : List (List Int)} (h : BasisOk LL) {k : Nat} (hk : k ≤ 6) (i : Nat) : (((levV LL k).take i).flatMap (childrenV LL)).length ≤ 16777216 := by
  have h2 := length_flatMap_le ((levV LL k).take i) (childrenV LL) 8 (fun p hp => by
      have := (lev_mem h k (by omega) p (List.mem_of_mem_take hp)).1
      have := childrenV_len LL p
      omega)
  have h3 := lev_len7 h (k := k) (by omega)
  rw [List.length_take] at h2
  omega
def levL (LL : List (List Int)) (k : Nat) : Int := ((levV LL k).length : Int)
def levS (LL : List (List Int)) (m : Nat) : List Int := (List.range m).map (levL LL)
theorem levS_succ (LL : List (List Int)) (m : Nat) : levS LL (m + 1) = levS LL m ++ [levL LL m] := by simp [levS, List.range_succ]
theorem levS_len (LL : List (List Int)) (m : Nat) : (levS LL m).length = m := by simp [levS]
open Classical in
noncomputable def LevelSizesV (LL : List (List Int)) (n : Int) : List Int := if CntOk LL n then levS LL (n.toNat + 1) else []
theorem LevelSizesV_len (LL : List (List Int)) (n : Int) : (LevelSizesV LL n).length < 2^38 := by
  unfold LevelSizesV
  split
  · rename_i h
    have := h.2
    rw [levS_len]; omega
  · simp
/-- One row that is empty. -/
def Lvls (LL : List (List Int)) (w : World) (B : Nat) (s : Sl) (m : Nat) : Prop := ∃ rs : List Sl, Own w B T_SSint s (rs.map Sl.v) ∧ rs.map (fun r => (r.n : Int)) = levS LL m
theorem Lvls.n {LL w B s m} (h : Lvls LL w B s m) : s.n = m := by
  obtain ⟨rs, h1, h2⟩ := h
  have h3 := congrArg List.length h2
  rw [List.length_map, levS_len] at h3
  have := h1.row.n
  simpa [h3] using this
theorem c_levels {w : World} {l : Sl} {LL : List (List Int)} (hl : RowSS w l LL) (hB : BasisOk LL) (n : Nat) (hn : n ≤ 6) :
    Calls PP F.impl_levels #[l.v, vI n] w fun e w' => ∃ s : Sl, e = .returned s.v ∧ Lvls LL w' w.heap.size s (n + 1) ∧ Below w.heap.size w w' := by
  refine impl_levels.calls l n ?_
  rw [impl_levels.E_s]
  refine lit0 oneSint (B := w.heap.size) (Nat.le_refl _) ?_
  intro o0 w1 ho0 hg1 _
  have hb1 := below_of_grow hg1
  refine lit0 oneInt (B := w.heap.size) hb1.size ?_
  intro e0 w2 he0 hg2 _
  have hb12 := below_of_grow hg2
  have hb2 := hb1.trans (hb12.mono hb1.size)
  refine (c_avoids (P := []) (hl.grow hb2) he0.row (by simp) (by have := hB.1; omega) (fun q hq => by have := hB.len q hq; omega)).mono ?_
  rintro e w3 ⟨rfl, hb23⟩
  refine ⟨_, rfl, ?_⟩
  have hb3 := hb2.trans (hb23.mono hb2.size)
  rw [avoids_nil hB]
  show sem1 .sl PP _ w3 _
  refine lit0 oneInt (B := w.heap.size) hb3.size ?_
  intro e1 w4 he1 hg4 _
  have hb34 := below_of_grow hg4
  have hb4 := hb3.trans (hb34.mono hb3.size)
  have ho4 := (((OwnRows.nil ho0).grow hb12).grow hb23).grow hb34
  refine append_sl ho4 hb4.size (L := []) he1 (fun t ht => by simp at ht) (by simp) ?_
  intro lv w5 hlv hg5 _
  have hb5 := hb4.grown hg5 hb4.size (fun g hg => (ho4.out.lt g hg).1)
  show impl_levels.J4 std _ _ _ _ _
  rw [impl_levels.J4_s]
  refine lit1 oneSSint (B := w.heap.size) hb5.size (One.sl lv) ?_
  intro o w6 ho hg6 _
  have hb6 := hb5.grown hg6 hb5.size (by simp)
  have hlv6 : RowSS w6 lv (levV LL 0) := by
    have := (hlv.grow (below_of_grow hg6)).row
    simpa [levV] using this
  refine impl_levels.L6_rule _ _ _ _ _ _ _ (I := fun lv o i w' => 0 ≤ i ∧ i ≤ n ∧ Below w.heap.size w w' ∧ RowSS w' lv (levV LL i.toNat) ∧ Lvls LL w' w.heap.size o (i.toNat + 1)) (μ := fun _ _ i _ => (n - i).toNat)
    ⟨by omega, by omega, hb6, hlv6, [lv], ho, by simp [levS, levL, hlv6.n]⟩ ?_
  rintro lv o i w' ⟨hi0, hi, hb, hlv, hout⟩
  rw [impl_levels.B6_s]
  refine bif_dec (fun h3 => ?_) (fun h3 => ?_)
  · refine lit0 oneSint (B := w'.heap.size) (Nat.le_refl _) ?_
    intro x0 w7 hx0 hg7 _
    have hb7 := below_of_grow hg7
    have hlvn := hlv.n
    have hl7 := lev_len7 hB (k := i.toNat) (by omega)
    rw [hlvn]
    refine impl_levels.L9_rule _ _ _ _ _ _ _ _ _ _ (I := fun x j w8 => 0 ≤ j ∧ j ≤ (levV LL i.toNat).length ∧ Below w'.heap.size w' w8 ∧ OwnSS w8 w'.heap.size x (((levV LL i.toNat).take j.toNat).flatMap (childrenV LL))) (μ := fun _ j _ => ((levV LL i.toNat).length - j).toNat)
      ⟨by omega, by omega, hb7, OwnSS.nil hx0⟩ ?_
    rintro x j w8 ⟨hj0, hj, hb8, hx⟩
    rw [impl_levels.B9_s]
    refine bif_dec (fun h5 => ?_) (fun h5 => ?_)
    · have hlt : j.toNat < (levV LL i.toNat).length := by omega
      refine RowSS.get (hlv.grow hb8) hj0 (by omega) fun r hr => ?_
      rw [getD_SS hlt] at hr
      have hm := lev_mem hB i.toNat (by omega) _ (List.getElem_mem hlt)
      have hbw8 := hb.trans (hb8.mono hb.size)
      refine (c_children (hl.grow hbw8) hB hr (by omega)).mono ?_
      rintro e w9 ⟨c, rfl, hc, hb9⟩
      refine ⟨c, rfl, ?_⟩
      have f1 := flat_take_len hB (k := i.toNat) (by omega) j.toNat
      have f2 := childrenV_len LL (levV LL i.toNat)[j.toNat]
      refine append_many hx hb9 hb8.size hc (by omega) ?_
      intro x' w10 hx' hg10 _
      have hb89 := hb8.trans (hb9.mono hb8.size)
      refine ⟨x', j + 1, by rw [w64_succ hj0 (by omega)], ⟨by omega, by omega, hb89.grown hg10 hb89.size (fun g hg => (hx.lt g hg).1), ?_⟩, by omega⟩
      rw [show (j + 1).toNat = j.toNat + 1 by omega, List.take_succ_eq_append_getElem hlt, flat_snoc']
      exact hx'
    · rw [impl_levels.A9_2_s]
      rw [show j.toNat = (levV LL i.toNat).length by omega, List.take_length] at hx
      obtain ⟨rs, ho1, ho2⟩ := hout
      have hbw8 := hb.trans (hb8.mono hb.size)
      have ho8 := ho1.grow hb8
      refine append_one oneSSint ho8 hbw8.size (One.sl x) (by
        have := congrArg List.length ho2
        rw [List.length_map, levS_len] at this
        rw [List.length_map]; omega) ?_
      intro o' w9 ho9 hg9 _
      obtain ⟨xs, hx⟩ := hx
      have hx9 := hx.keepsLt (keeps_grown hg9) (fun g hg => (ho1.lt g hg).2)
      have e1 : (i + 1).toNat = i.toNat + 1 := by omega
      refine ⟨x, o', i + 1, by rw [w64_succ hi0 (by omega)], ⟨by omega, by omega, hbw8.grown hg9 hbw8.size (fun g hg => (ho8.lt g hg).1), ?_, ?_⟩, by omega⟩
      · rw [e1]; exact hx9.row
      · refine ⟨rs ++ [x], by simpa using ho9, ?_⟩
        have hxn := hx9.n
        rw [e1, levS_succ, List.map_append, ho2, levL, levV]
        simp [hxn]
  · rw [impl_levels.A6_0_s]
    rw [show i.toNat = n by omega] at hout
    exact ⟨o, rfl, hout, hb⟩
theorem c_implLevelSizes {w : World} {l : Sl} {LL : List (List Int)} (hl : RowSS w l LL) (hL : LL.length < 2^38) (ht : tot LL < 2^37) (n : Int) :
    Calls PP F.impl_LevelSizes #[l.v, vI n] w fun e w' => ∃ s : Sl, e = .returned s.v ∧ OwnI w' w.heap.size s (LevelSizesV LL n) ∧ Below w.heap.size w w' := by
  refine impl_LevelSizes.calls l n ?_
  rw [impl_LevelSizes.E_s]
  refine (c_implIsBasis hl hL ht).mono ?_
  rintro e w1 ⟨rfl, hb1⟩
  refine ⟨_, rfl, ?_⟩
  refine bif_intro (fun h => ?_) (fun h => ?_)
  · have h : ¬ BasisOk LL := by simpa [IsBasisV] using h
    exact ⟨Sl.nil, rfl, by rw [LevelSizesV, if_neg (fun hh => h hh.1)]; exact Own.nil _ _ _, hb1⟩
  have hB : BasisOk LL := by simpa [IsBasisV] using h
  refine c_six ?_
  refine bif_intro (fun h => ?_) (fun h => ?_)
  · have h : ¬ (0 ≤ n ∧ n ≤ 6) := by simp at h; omega
    exact ⟨Sl.nil, rfl, by rw [LevelSizesV, if_neg (fun hh => h hh.2)]; exact Own.nil _ _ _, hb1⟩
  have hn : 0 ≤ n ∧ n ≤ 6 := by simpa using h
  have hV : LevelSizesV LL n = levS LL (n.toNat + 1) := by rw [LevelSizesV, if_pos ⟨hB, hn⟩]
  rw [hV]
  obtain ⟨n, rfl⟩ : ∃ m : Nat, n = m := ⟨n.toNat, by omega⟩
  rw [Int.toNat_natCast]
  refine lit0 oneInt (B := w.heap.size) hb1.size ?_
  intro o w2 ho hg2 _
  have hb2 := hb1.grown hg2 hb1.size (by simp)
  refine (c_levels (hl.grow hb2) hB n (by omega)).mono ?_
  rintro e w3 ⟨t, rfl, hto, hb23⟩
  refine ⟨t, rfl, ?_⟩
  have hb3 := hb2.trans (hb23.mono hb2.size)
  have htn := hto.n
  obtain ⟨rs, ht1, ht2⟩ := hto
  have hrl : rs.length = n + 1 := by
    have := congrArg List.length ht2
    rw [List.length_map, levS_len] at this
    exact this
  show impl_LevelSizes.L5 std _ _ _ _ _ _
  rw [htn]
  refine impl_LevelSizes.L5_rule _ _ _ _ _ _ (I := fun o i w' => 0 ≤ i ∧ i ≤ (n + 1 : Nat) ∧ Below w.heap.size w w' ∧ Own w' w2.heap.size T_SSint t (rs.map Sl.v) ∧ OwnI w' w.heap.size o (levS LL i.toNat)) (μ := fun _ i _ => ((n + 1 : Nat) - i).toNat)
    ⟨by omega, by omega, hb3, ht1, by have := Own.grow ho hb23; simpa [OwnI, levS] using this⟩ ?_
  rintro o i w' ⟨hi0, hi, hb, htw, how⟩
  rw [impl_LevelSizes.B5_s]
  refine bif_dec (fun h3 => ?_) (fun h3 => ?_)
  · have hlt : i.toNat < rs.length := by omega
    refine Row.get (sh := .sl) (r := rs[i.toNat]) htw.row hi0 (by rw [List.getElem?_map, List.getElem?_eq_getElem hlt]; rfl) ?_
    have hxn : (rs[i.toNat].n : Int) = levL LL i.toNat := by
      have h5 : (rs.map (fun r => (r.n : Int)))[i.toNat]? = (levS LL (n + 1))[i.toNat]? := by rw [ht2]
      rw [List.getElem?_map, List.getElem?_eq_getElem hlt, levS, List.getElem?_map, List.getElem?_range (by omega)] at h5
      simpa using h5
    simp only [hxn]
    refine append_int how hb.size (by rw [levS_len]; omega) ?_
    intro o' w4 ho4 hg4 _
    refine ⟨o', i + 1, by rw [w64_succ hi0 (by omega)], ⟨by omega, by omega, hb.grown hg4 hb.size (fun g hg => (how.lt g hg).1), ?_, ?_⟩, by omega⟩
    · exact htw.kept hg4 fun g e1 e2 => (htw.apt how ne_SS_int) g e1 e2
    · rw [show (i + 1).toNat = i.toNat + 1 by omega, levS_succ]
      exact ho4
  · rw [impl_LevelSizes.A5_0_s]
    rw [show i.toNat = n + 1 by omega] at how
    exact ⟨o, rfl, how, hb⟩
theorem c_specLevelSizes0 {w : World} {l : Sl} {LL : List (List Int)} (hl : RowSS w l LL) (hL : LL.length < 2^38) (ht : tot LL < 2^37) (n : Int) :
    Calls PP F.spec_LevelSizes #[l.v, vI n] w fun e w' => ∃ s : Sl, e = .returned s.v ∧ OwnI w' w.heap.size s (LevelSizesV LL n) ∧ Below w.heap.size w w' := by
  refine spec_LevelSizes.calls l n ?_
  rw [spec_LevelSizes.E_s]
  refine lit0 oneInt (B := w.heap.size) (Nat.le_refl _) ?_
  intro o w1 ho hg1 _
  have hb1 := below_of_grow hg1
  refine (c_specIsBasis (hl.grow hb1) hL ht).mono ?_
  rintro e w2 ⟨rfl, hb12⟩
  refine ⟨_, rfl, ?_⟩
  have hb2 := hb1.trans (hb12.mono hb1.size)
  have ho2 : OwnI w2 w.heap.size o [] := Own.grow ho hb12
  refine bif_intro (fun h => ?_) (fun h => ?_)
  · have h : ¬ BasisOk LL := by simpa [IsBasisV] using h
    exact ⟨o, rfl, by rw [LevelSizesV, if_neg (fun hh => h hh.1)]; exact ho2, hb2⟩
  have hB : BasisOk LL := by simpa [IsBasisV] using h
  refine Pure.pcall1 (s := .bool) (c_l1In n 0 6) ?_
  refine bif_intro (fun h => ?_) (fun h => ?_)
  · have h : ¬ (0 ≤ n ∧ n ≤ 6) := by simp at h; omega
    exact ⟨o, rfl, by rw [LevelSizesV, if_neg (fun hh => h hh.2)]; exact ho2, hb2⟩
  have hn : 0 ≤ n ∧ n ≤ 6 := by simpa using h
  have hV : LevelSizesV LL n = levS LL (n.toNat + 1) := by rw [LevelSizesV, if_pos ⟨hB, hn⟩]
  rw [hV]
  obtain ⟨n, rfl⟩ : ∃ m : Nat, n = m := ⟨n.toNat, by omega⟩
  rw [Int.toNat_natCast]
  refine lit0 oneInt (B := w2.heap.size) (Nat.le_refl _) ?_
  intro s0 w3 hs0 hg3 _
  have hb3 := hb2.grown hg3 hb2.size (by simp)
  refine lit1 oneSint (B := w2.heap.size) (below_of_grow hg3).size (One.sl s0) ?_
  intro lv w4 hlv hg4 _
  have hb4 := hb3.grown hg4 hb3.size (by simp)
  have hlv4 : OwnSS w4 w2.heap.size lv (levV LL 0) := OwnSS.one_nil hs0 hlv hg4
  have ho4 : OwnI w4 w.heap.size o [] := Own.grow (Own.grow ho2 (below_of_grow hg3)) (below_of_grow hg4)
  refine spec_LevelSizes.L6_rule _ _ _ _ _ _ _ (I := fun o lv k w' => 0 ≤ k ∧ k ≤ (n + 1 : Nat) ∧ Below w.heap.size w w' ∧ OwnI w' w.heap.size o (levS LL k.toNat) ∧ (k ≤ n → ∃ C, OwnSS w' C lv (levV LL k.toNat) ∧ ∀ g, o.blk = some g → g < C)) (μ := fun _ _ k _ => ((n + 1 : Nat) - k).toNat)
    ⟨by omega, by omega, hb4, by simpa [levS] using ho4, fun _ => ⟨w2.heap.size, hlv4, fun g hg => (ho2.lt g hg).2⟩⟩ ?_
  rintro o lv k w' ⟨hk0, hk, hb, ho, hlev⟩
  rw [spec_LevelSizes.B6_s]
  refine bif_dec (fun h3 => ?_) (fun h3 => ?_)
  · obtain ⟨C, hlvO, hC⟩ := hlev h3
    have hlvn := hlvO.row.n
    have hxn : (lv.n : Int) = levL LL k.toNat := by rw [hlvn, levL]
    rw [hxn]
    refine append_int ho hb.size (by rw [levS_len]; omega) ?_
    intro o' w5 ho5 hg5 _
    have hb5 := hb.grown hg5 hb.size (fun g hg => (ho.lt g hg).1)
    have hlv5 : RowSS w5 lv (levV LL k.toNat) := by
      obtain ⟨rs, hlvO⟩ := hlvO
      exact (hlvO.keepsLt (keeps_grown hg5) (fun g hg => hC g hg)).row
    refine lit0 oneSint (B := w5.heap.size) (Nat.le_refl _) ?_
    intro x0 w7 hx0 hg7 _
    have hb7 := below_of_grow hg7
    have hl7 := lev_len7 hB (k := k.toNat) (by omega)
    have e1 : (k + 1).toNat = k.toNat + 1 := by omega
    refine spec_LevelSizes.L11_rule _ _ _ _ _ _ _ _ _ (I := fun x j w8 => 0 ≤ j ∧ j ≤ (levV LL k.toNat).length ∧ Below w5.heap.size w5 w8 ∧ OwnSS w8 w5.heap.size x (((levV LL k.toNat).take j.toNat).flatMap (childrenV LL))) (μ := fun _ j _ => ((levV LL k.toNat).length - j).toNat)
      ⟨by omega, by omega, hb7, OwnSS.nil hx0⟩ ?_
    rintro x j w8 ⟨hj0, hj, hb8, hx⟩
    have hbw8 := hb5.trans (hb8.mono hb5.size)
    rw [spec_LevelSizes.B11_s, hlvn]
    refine bif_dec (fun h5 => ?_) (fun h5 => ?_)
    · refine bif_dec (fun h6 => ?_) (fun h6 => ?_)
      · have hlt : j.toNat < (levV LL k.toNat).length := by omega
        refine RowSS.get (hlv5.grow hb8) hj0 (by omega) fun r hr => ?_
        rw [getD_SS hlt] at hr
        have hm := lev_mem hB k.toNat (by omega) _ (List.getElem_mem hlt)
        refine (c_specChildrenOf0 (hl.grow hbw8) hL ht hr (by omega)).mono ?_
        rintro e w9 ⟨c, rfl, hc, hb9⟩
        refine ⟨c, rfl, ?_⟩
        have hcV : ChildrenOfV LL (levV LL k.toNat)[j.toNat] = childrenV LL (levV LL k.toNat)[j.toNat] := by rw [ChildrenOfV, if_pos ⟨⟨hB, hm.2.1, hm.2.2⟩, by omega⟩]
        rw [hcV] at hc
        have f1 := flat_take_len hB (k := k.toNat) (by omega) j.toNat
        have f2 := childrenV_len LL (levV LL k.toNat)[j.toNat]
        refine append_many hx hb9 hb8.size hc (by omega) ?_
        intro x' w10 hx' hg10 _
        have hb89 := hb8.trans (hb9.mono hb8.size)
        refine ⟨x', j + 1, by rw [w64_succ hj0 (by omega)], ⟨by omega, by omega, hb89.grown hg10 hb89.size (fun g hg => (hx.lt g hg).1), ?_⟩, by omega⟩
        rw [show (j + 1).toNat = j.toNat + 1 by omega, List.take_succ_eq_append_getElem hlt, flat_snoc']
        exact hx'
      · rw [spec_LevelSizes.A11_2_s]
        refine ⟨o', x, k + 1, by rw [w64_succ hk0 (by omega)], ⟨by omega, by omega, hbw8, ?_, fun h => by omega⟩, by omega⟩
        rw [e1, levS_succ]
        exact Own.grow ho5 hb8
    · rw [spec_LevelSizes.A11_2_s]
      rw [show j.toNat = (levV LL k.toNat).length by omega, List.take_length] at hx
      refine ⟨o', x, k + 1, by rw [w64_succ hk0 (by omega)], ⟨by omega, by omega, hbw8, ?_, fun h => ⟨w5.heap.size, ?_, fun g hg => (ho5.lt g hg).2⟩⟩, by omega⟩
      · rw [e1, levS_succ]
        exact Own.grow ho5 hb8
      · rw [e1, levV]; exact hx
  · rw [spec_LevelSizes.A6_0_s]
    rw [show k.toNat = n + 1 by omega] at ho
    exact ⟨o, rfl, ho, hb⟩
theorem c_specLevelSizes {w : World} {l : Sl} {LL : List (List Int)} (hl : RowSS w l LL) (hL : LL.length < 2^38) (ht : tot LL < 2^37) (n : Int) :
    Calls PP F.spec_LevelSizes #[l.v, vI n] w fun e w' => ∃ s : Sl, e = .returned s.v ∧ RowI w' s (LevelSizesV LL n) ∧ Below w.heap.size w w' :=
  (c_specLevelSizes0 hl hL ht n).mono fun e w' ⟨s, he, ho, hb⟩ => ⟨s, he, ho.row, hb⟩
end Go.Proofs.Yteplokddaebbeaa

/- Classes length by length: the permutations of a class arise from the shorter ones by a last value. -/
namespace Go.Proofs.Yteplokddaebbeaa
open Go
set_option maxRecDepth 100000

def bump (v x : Int) : Int := if x ≥ v then x + 1 else x
def unb (v x : Int) : Int := if x > v then x - 1 else x
def insV (q : List Int) (v : Int) : List Int := q.map (bump v) ++ [v]
def nextV (LL : List (List Int)) (k : Nat) (last : List (List Int)) : List (List Int) := last.flatMap fun q => ((idn k).map (insV q)).filter (avoidsV LL)
def l12V (LL : List (List Int)) : Nat → List (List Int)
  | 0 => [[]]
  | k + 1 => nextV LL (k + 1) (l12V LL k)
theorem bump_lt (v x y : Int) : bump v x < bump v y ↔ x < y := by unfold bump; split <;> split <;> omega
theorem bump_inj (v x y : Int) (h : bump v x = bump v y) : x = y := by unfold bump at h; split at h <;> split at h <;> omega
theorem bump_ne (v x : Int) : bump v x ≠ v := by unfold bump; split <;> omega
theorem bump_unb (v x : Int) (h : x ≠ v) : bump v (unb v x) = x := by unfold bump unb; split <;> split <;> omega
theorem insV_length (q : List Int) (v : Int) : (insV q v).length = q.length + 1 := by simp [insV]
theorem insV_getD (q : List Int) (v : Int) {i : Nat} (h : i < q.length) : (insV q v).getD i 0 = bump v (q.getD i 0) := by
  rw [getD_lt h]
  simp [insV, List.getD_eq_getElem?_getD, List.getElem?_append, h]
theorem insV_inj {q q' : List Int} {v v' : Int} (h : insV q v = insV q' v') : q = q' ∧ v = v' := by
  obtain ⟨h1, h2⟩ := List.append_inj' h rfl
  have hv : v = v' := by simpa using h2
  subst hv
  exact ⟨(List.map_inj_right (fun x y => bump_inj v x y)).1 h1, rfl⟩
theorem hasB_ins {q Q : List Int} {v : Int} : ∀ (m : Nat) (h : List Int), Places q h → hasB q Q m h = true → hasB (insV q v) Q m h = true
  | 0, _, _, _ => rfl
  | m + 1, h, hh, hb => by
    obtain ⟨x, h1, h2, h3, h4⟩ := hasB_succ.1 hb
    have h0 := hh.last
    refine hasB_succ.2 ⟨x, h1, by rw [insV_length]; omega, ?_, hasB_ins m _ (hh.snoc (by omega) h2) h4⟩
    rw [fitsB_iff] at h3 ⊢
    intro k hk
    have h5 := h3 k hk
    have h6 := hh _ (List.getElem_mem hk)
    unfold fitsAt at h5 ⊢
    rw [getD_lt hk] at h5 ⊢
    rw [insV_getD _ _ (by omega), insV_getD _ _ (by omega)]
    rw [← h5]
    congr 1
    exact decide_eq_decide.2 (bump_lt _ _ _)
theorem avoids_ins {LL : List (List Int)} {q : List Int} {v : Int} (h : avoidsV LL (insV q v) = true) : avoidsV LL q = true := by
  unfold avoidsV at h ⊢
  rw [Bool.not_eq_true'] at h ⊢
  rw [List.any_eq_false] at h ⊢
  intro Q hQ hq
  exact h Q hQ (hasB_ins _ _ (Places.nil q) hq)
theorem insV_perm {q : List Int} {v : Int} {k : Nat} (hq : q.Perm (idn k)) (hv : v ∈ idn (k + 1)) : (insV q v).Perm (idn (k + 1)) := by
  have hv := mem_idn.1 hv
  have hn : q.Nodup := hq.nodup_iff.2 (idn_nodup k)
  have hl : q.length = k := by rw [hq.length_eq, idn_length]
  refine perm_of_nodup ?_ (fun x hx => ?_) (by rw [insV_length, hl])
  · rw [insV, List.nodup_append]
    refine ⟨?_, by simp, fun a ha b hb => ?_⟩
    · exact List.pairwise_map.2 (hn.imp fun hab e => hab (bump_inj _ _ _ e))
    · obtain ⟨y, _, rfl⟩ := List.mem_map.1 ha
      have : b = v := by simpa using hb
      rw [this]; exact bump_ne v y
  · rw [insV] at hx
    rcases List.mem_append.1 hx with h | h
    · obtain ⟨y, hy, rfl⟩ := List.mem_map.1 h
      have := mem_idn.1 (hq.mem_iff.1 hy)
      unfold bump; split <;> omega
    · have : x = v := by simpa using h
      omega
theorem insV_of_perm {p : List Int} {k : Nat} (hp : p.Perm (idn (k + 1))) : ∃ q v, q.Perm (idn k) ∧ v ∈ idn (k + 1) ∧ p = insV q v := by
  have hl : p.length = k + 1 := by rw [hp.length_eq, idn_length]
  obtain ⟨d, v, rfl⟩ : ∃ d v, p = d ++ [v] := ⟨p.dropLast, p.getLast (by rintro rfl; simp at hl), (List.dropLast_concat_getLast _).symm⟩
  have hn : (d ++ [v]).Nodup := hp.nodup_iff.2 (idn_nodup _)
  rw [List.nodup_append] at hn
  obtain ⟨hn1, _, hn2⟩ := hn
  have hd : ∀ x ∈ d, x ≠ v := fun x hx => hn2 x hx v (by simp)
  have hm : ∀ x ∈ d ++ [v], 1 ≤ x ∧ x ≤ ((k + 1 : Nat) : Int) := fun x hx => mem_idn.1 (hp.mem_iff.1 hx)
  have hv := hm v (by simp)
  refine ⟨d.map (unb v), v, ?_, mem_idn.2 hv, ?_⟩
  · refine perm_of_nodup ?_ (fun x hx => ?_) (by simpa using hl)
    · refine List.pairwise_map.2 ?_
      have h5 : List.Pairwise (fun a b => a ∈ d ∧ b ∈ d ∧ a ≠ b) d := List.pairwise_iff_forall_sublist.2 fun {a b} hs => by
        have hs' := hs.subset
        exact ⟨hs' (by simp), hs' (by simp), by
          have := (List.pairwise_iff_forall_sublist.1 hn1) hs
          exact this⟩
      refine h5.imp fun ⟨ha, hb, hab⟩ e => hab ?_
      rw [← bump_unb v _ (hd _ ha), ← bump_unb v _ (hd _ hb), e]
    · obtain ⟨y, hy, rfl⟩ := List.mem_map.1 hx
      have h6 := hm y (by simp [hy])
      have h7 := hd y hy
      unfold unb; split <;> omega
  · rw [insV, List.map_map]
    congr 1
    symm
    have : d.map (bump v ∘ unb v) = d.map id := List.map_congr_left fun x hx => bump_unb v x (hd x hx)
    rw [this, List.map_id]
theorem mem_l12V {LL : List (List Int)} (h0 : avoidsV LL [] = true) : ∀ {k : Nat} {p : List Int}, p ∈ l12V LL k ↔ p.Perm (idn k) ∧ avoidsV LL p = true
  | 0, p => by
    simp only [l12V, List.mem_singleton]
    constructor
    · rintro rfl; exact ⟨List.Perm.refl _, h0⟩
    · rintro ⟨h, _⟩; exact List.Perm.eq_nil h
  | k + 1, p => by
    rw [l12V, nextV, List.mem_flatMap]
    constructor
    · rintro ⟨q, hq, hp⟩
      obtain ⟨hq1, _⟩ := (mem_l12V h0).1 hq
      rw [List.mem_filter] at hp
      obtain ⟨hp, ha⟩ := hp
      obtain ⟨v, hv, rfl⟩ := List.mem_map.1 hp
      exact ⟨insV_perm hq1 hv, ha⟩
    · rintro ⟨hp, ha⟩
      obtain ⟨q, v, hq, hv, rfl⟩ := insV_of_perm hp
      exact ⟨q, (mem_l12V h0).2 ⟨hq, avoids_ins ha⟩, List.mem_filter.2 ⟨List.mem_map.2 ⟨v, hv, rfl⟩, ha⟩⟩
theorem l12V_nodup {LL : List (List Int)} : ∀ k, (l12V LL k).Nodup
  | 0 => by simp [l12V]
  | k + 1 => by
    rw [l12V, nextV, List.Nodup, List.pairwise_flatMap]
    refine ⟨fun q _ => List.Pairwise.filter _ (List.pairwise_map.2 ((idn_nodup (k + 1)).imp fun hab e => hab (insV_inj e).2)), (l12V_nodup k).imp fun {a b} hab x hx y hy e => ?_⟩
    obtain ⟨v, _, rfl⟩ := List.mem_map.1 (List.mem_filter.1 hx).1
    obtain ⟨v', _, rfl⟩ := List.mem_map.1 (List.mem_filter.1 hy).1
    exact hab (insV_inj e).1
theorem lvl_nodup (n : Nat) : ∀ k, (lvl n k).Nodup
  | 0 => by simp [lvl]
  | k + 1 => by
    rw [lvl, List.Nodup, List.pairwise_flatMap]
    refine ⟨fun q _ => ?_, (lvl_nodup n k).imp fun {a b} hab x hx y hy e => ?_⟩
    · rw [extV, List.pairwise_flatMap]
      refine ⟨fun v _ => by split <;> simp, (idn_nodup n).imp fun {a b} hab x hx y hy e => ?_⟩
      split at hx
      · simp at hx
      · split at hy
        · simp at hy
        · simp at hx hy; subst hx hy; exact hab (by simpa using e)
    · obtain ⟨v, _, _, rfl⟩ := mem_extV.1 hx
      obtain ⟨v', _, _, rfl⟩ := mem_extV.1 hy
      exact hab (List.append_inj' e rfl).1
theorem l12V_perm {LL : List (List Int)} (h0 : avoidsV LL [] = true) (k : Nat) : (l12V LL k).Perm (classV LL k) := by
  refine (List.perm_ext_iff_of_nodup (l12V_nodup k) (List.Pairwise.filter _ (lvl_nodup k k))).2 fun p => ?_
  show p ∈ l12V LL k ↔ p ∈ (permsV k).filter (avoidsV LL)
  rw [mem_l12V h0, List.mem_filter, mem_permsV]
theorem l12V_len {LL : List (List Int)} (h0 : avoidsV LL [] = true) (k : Nat) : (l12V LL k).length = (classV LL k).length := (l12V_perm h0 k).length_eq
theorem l12V_mem_len {LL : List (List Int)} (h0 : avoidsV LL [] = true) {k : Nat} {p : List Int} (h : p ∈ l12V LL k) : p.length = k := by
  rw [((mem_l12V h0).1 h).1.length_eq, idn_length]
end Go.Proofs.Yteplokddaebbeaa

/- A permutation has no number twice. -/
namespace Go.Proofs.Yteplokddaebbeaa
open Go
theorem isP_nd {L : List Int} (h : IsP L) : L.Nodup := by
  rw [List.nodup_iff_pairwise_ne, List.pairwise_iff_getElem]
  intro i j hi hj hij e
  refine (h.2 j hj).2.2 i hij ?_
  simp only [List.getD_eq_getElem?_getD, List.getElem?_eq_getElem hi, List.getElem?_eq_getElem hj, Option.getD_some]
  exact e
end Go.Proofs.Yteplokddaebbeaa

/- Parents and children; the levels of the tree are the classes. No program in sight. -/
namespace Go.Proofs.Yteplokddaebbeaa
open Go
set_option maxRecDepth 100000

/-! ### A greatest number put in keeps the patterns -/
def shf (i : Nat) (x : Int) : Int := if x ≤ i then x else x + 1
theorem childW_getD {P : List Int} {i : Nat} (hi : i ≤ P.length) {x : Int} (h1 : 1 ≤ x) (h2 : x ≤ P.length) : (childW P i).getD (shf i x - 1).toNat 0 = P.getD (x - 1).toNat 0 := by
  have ht : (P.take i).length = i := by simp; omega
  unfold childW shf
  simp only [List.getD_eq_getElem?_getD]
  split
  · rw [List.getElem?_append_left (by omega), List.getElem?_take, if_pos (by omega)]
  · rw [List.getElem?_append_right (by omega), ht, show (x + 1 - 1).toNat - i = (x - 1).toNat - i + 1 by omega, List.getElem?_cons_succ, List.getElem?_drop]
    congr 2
    omega
theorem lastD_shf {i : Nat} {h : List Int} {P : List Int} (hh : Places P h) : lastD (h.map (shf i)) = if h = [] then 0 else shf i (lastD h) := by
  by_cases e : h = []
  · subst e; rfl
  · have hp : 0 < h.length := List.length_pos_iff.2 e
    rw [if_neg e, lastD, lastD, List.length_map, getD_lt (by simpa using by omega), getD_lt (by omega)]
    simp
theorem hasB_child {P Q : List Int} {i : Nat} (hi : i ≤ P.length) : ∀ (m : Nat) (h : List Int), Places P h → hasB P Q m h = true → hasB (childW P i) Q m (h.map (shf i)) = true
  | 0, _, _, _ => rfl
  | m + 1, h, hh, hb => by
    obtain ⟨x, h1, h2, h3, h4⟩ := hasB_succ.1 hb
    have h0 := hh.last
    have ih := hasB_child hi m _ (hh.snoc (by omega) h2) h4
    rw [List.map_append] at ih
    have hl := childW_length hi
    refine hasB_succ.2 ⟨shf i x, ?_, ?_, ?_, ih⟩
    · rw [lastD_shf hh]
      split
      · unfold shf; split <;> omega
      · unfold shf; split <;> split <;> omega
    · rw [hl]; unfold shf; split <;> omega
    · rw [fitsB_iff] at h3 ⊢
      intro k hk
      rw [List.length_map] at hk
      have h5 := h3 k hk
      have h6 := hh _ (List.getElem_mem hk)
      unfold fitsAt at h5 ⊢
      rw [getD_lt hk] at h5
      rw [List.length_map, getD_lt (L := h.map (shf i)) (i := k) (by rw [List.length_map]; exact hk)]
      simp only [List.getElem_map]
      rw [childW_getD hi h6.1 h6.2, childW_getD hi (by omega) h2]
      exact h5
theorem avoids_child {LL : List (List Int)} {P : List Int} {i : Nat} (hi : i ≤ P.length) (h : avoidsV LL (childW P i) = true) : avoidsV LL P = true := by
  unfold avoidsV at h ⊢
  rw [Bool.not_eq_true'] at h ⊢
  rw [List.any_eq_false] at h ⊢
  intro Q hQ hq
  exact h Q hQ (hasB_child hi _ _ (Places.nil P) hq)

/-! ### The parent -/
/-- The numbers but the greatest. -/
def par (L : List Int) : List Int := L.filter fun x => decide (x < L.length)
theorem par_child {P : List Int} {k i : Nat} (h : P.Perm (idn k)) (hi : i ≤ P.length) : par (childW P i) = P := by
  have hl : P.length = k := by rw [h.length_eq, idn_length]
  have hb : ∀ x ∈ P, x ≤ k := fun x hx => (mem_idn.1 (h.mem_iff.1 hx)).2
  have hcl := childW_length hi
  have h1 : ∀ A : List Int, (∀ x ∈ A, x ∈ P) → A.filter (fun x => decide (x < ((childW P i).length : Int))) = A := fun A hA => by
    rw [List.filter_eq_self]
    intro x hx
    have := hb x (hA x hx)
    simp; omega
  unfold par
  have e : childW P i = P.take i ++ ((P.length : Int) + 1) :: P.drop i := rfl
  conv => lhs; rw [e]
  rw [List.filter_append, List.filter_cons, if_neg (by simp; omega)]
  have e2 : (P.take i ++ ((P.length : Int) + 1) :: P.drop i).length = (childW P i).length := rfl
  rw [e2, h1 _ (fun x hx => List.mem_of_mem_take hx), h1 _ (fun x hx => List.mem_of_mem_drop hx), List.take_append_drop]
theorem child_of_perm {p : List Int} {k : Nat} (hp : p.Perm (idn (k + 1))) : ∃ q i, q.Perm (idn k) ∧ i ≤ q.length ∧ p = childW q i := by
  have hm : ((k : Int) + 1) ∈ p := hp.mem_iff.2 (mem_idn.2 ⟨by omega, by omega⟩)
  obtain ⟨A, B, rfl⟩ := List.append_of_mem hm
  have h1 : (A ++ ((k : Int) + 1) :: B).Perm (((k : Int) + 1) :: (A ++ B)) := List.perm_middle
  have h2 := h1.symm.trans hp
  rw [idn_succ] at h2
  have h3 : (idn k ++ [(k : Int) + 1]).Perm (((k : Int) + 1) :: idn k) := List.perm_append_comm (l₂ := [(k : Int) + 1])
  have hq := List.Perm.cons_inv (h2.trans h3)
  have hl : (A ++ B).length = k := by rw [hq.length_eq, idn_length]
  refine ⟨A ++ B, A.length, hq, by simp, ?_⟩
  unfold childW
  rw [hl]
  simp
theorem mem_sitesT {LL : List (List Int)} {P : List Int} : ∀ {k i : Nat}, i < k → avoidsV LL (childW P i) = true → (i : Int) ∈ sitesT LL P k
  | k + 1, i, hi, h => by
    rw [sitesT]
    by_cases e : i = k
    · subst e; rw [if_pos h]; simp
    · have := mem_sitesT (LL := LL) (P := P) (k := k) (by omega) h
      split
      · exact List.mem_append_left _ this
      · exact this
theorem mem_children {LL : List (List Int)} {P q : List Int} : q ∈ childrenV LL P ↔ ∃ i : Nat, i ≤ P.length ∧ q = childW P i ∧ avoidsV LL q = true := by
  constructor
  · exact childrenV_mem
  · rintro ⟨i, hi, rfl, ha⟩
    exact List.mem_map.2 ⟨(i : Int), mem_sitesT (by omega) ha, by simp⟩
theorem sitesT_sorted {LL : List (List Int)} {P : List Int} : ∀ k, (sitesT LL P k).Pairwise (· < ·)
  | 0 => List.Pairwise.nil
  | k + 1 => by
    rw [sitesT]
    split
    · rw [List.pairwise_append]
      refine ⟨sitesT_sorted k, by simp, fun a ha b hb => ?_⟩
      have := (sitesT_mem ha).2.1
      simp at hb; omega
    · exact sitesT_sorted k
theorem child_inj {P : List Int} {k i j : Nat} (h : P.Perm (idn k)) (hi : i ≤ P.length) (hj : j ≤ P.length) (e : childW P i = childW P j) : i = j := by
  have hl : P.length = k := by rw [h.length_eq, idn_length]
  have hne : ∀ n, P[n]? ≠ some ((P.length : Int) + 1) := fun n e => by
    have := (mem_idn.1 (h.mem_iff.1 (List.mem_of_getElem? e))).2
    omega
  have key : ∀ i j, i ≤ P.length → j ≤ P.length → i < j → childW P i ≠ childW P j := fun i j hi hj hij e => by
    have h1 : (childW P i)[i]? = some ((P.length : Int) + 1) := by
      unfold childW; rw [List.getElem?_append_right (by simp; omega)]; simp [Nat.min_eq_left hi]
    have h2 : (childW P j)[i]? = P[i]? := by
      unfold childW; rw [List.getElem?_append_left (by simp; omega), List.getElem?_take, if_pos hij]
    rw [e, h2] at h1
    exact hne i h1
  rcases Nat.lt_trichotomy i j with h1 | h1 | h1
  · exact absurd e (key i j hi hj h1)
  · exact h1
  · exact absurd e.symm (key j i hj hi h1)
theorem children_nodup {LL : List (List Int)} {P : List Int} {k : Nat} (h : P.Perm (idn k)) : (childrenV LL P).Nodup := by
  unfold childrenV
  rw [List.nodup_iff_pairwise_ne, List.pairwise_map]
  refine List.Pairwise.imp_of_mem (fun {a b} ha hb hab e => ?_) (sitesT_sorted (LL := LL) (P := P) (P.length + 1))
  obtain ⟨a1, a2, _⟩ := sitesT_mem ha
  obtain ⟨b1, b2, _⟩ := sitesT_mem hb
  have := child_inj h (by omega) (by omega) e
  omega
/-- The children of all permutations of a class are the next class. -/
theorem next_class {LL : List (List Int)} (k : Nat) {l : List (List Int)} (hl : l.Perm (classV LL k)) : (l.flatMap (childrenV LL)).Perm (classV LL (k + 1)) := by
  have hn : l.Nodup := hl.nodup_iff.2 (List.Pairwise.filter _ (lvl_nodup k k))
  have hm : ∀ q, q ∈ l ↔ q.Perm (idn k) ∧ avoidsV LL q = true := fun q => by
    rw [hl.mem_iff]
    show q ∈ (permsV k).filter (avoidsV LL) ↔ _
    rw [List.mem_filter, mem_permsV]
  refine (List.perm_ext_iff_of_nodup ?_ (List.Pairwise.filter _ (lvl_nodup (k + 1) (k + 1)))).2 fun p => ?_
  · rw [List.Nodup, List.pairwise_flatMap]
    refine ⟨fun q hq => children_nodup ((hm q).1 hq).1, List.Pairwise.imp_of_mem (fun {a b} ha hb hab x hx y hy e => ?_) hn⟩
    obtain ⟨i, hi, rfl, _⟩ := mem_children.1 hx
    obtain ⟨j, hj, rfl, _⟩ := mem_children.1 hy
    apply hab
    rw [← par_child ((hm a).1 ha).1 hi, e, par_child ((hm b).1 hb).1 hj]
  · show p ∈ l.flatMap (childrenV LL) ↔ p ∈ (permsV (k + 1)).filter (avoidsV LL)
    rw [List.mem_filter, mem_permsV, List.mem_flatMap]
    constructor
    · rintro ⟨q, hq, hp⟩
      obtain ⟨i, hi, rfl, ha⟩ := mem_children.1 hp
      refine ⟨?_, ha⟩
      have h1 := ((hm q).1 hq).1
      have hlq : q.length = k := by rw [h1.length_eq, idn_length]
      have h2 : (childW q i).Perm (((q.length : Int) + 1) :: q) := by
        unfold childW
        have := List.perm_middle (a := (q.length : Int) + 1) (l₁ := q.take i) (l₂ := q.drop i)
        rwa [List.take_append_drop] at this
      rw [idn_succ]
      refine h2.trans ?_
      rw [hlq]
      exact (List.Perm.cons _ h1).trans (List.perm_append_comm (l₁ := [(k : Int) + 1]))
    · rintro ⟨hp, ha⟩
      obtain ⟨q, i, hq, hi, rfl⟩ := child_of_perm hp
      exact ⟨q, (hm q).2 ⟨hq, avoids_child hi ha⟩, mem_children.2 ⟨i, hi, rfl, ha⟩⟩
theorem lev_class {LL : List (List Int)} (h : BasisOk LL) : ∀ k, (levV LL k).Perm (classV LL k)
  | 0 => by
    have : classV LL 0 = [[]] := by
      show (permsV 0).filter (avoidsV LL) = [[]]
      have e : permsV 0 = [[]] := rfl
      rw [e, List.filter_cons, if_pos (avoids_nil h)]; rfl
    rw [this]; exact List.Perm.refl _
  | k + 1 => next_class k (lev_class h k)
/-- How many children the permutations of a class have. -/
theorem sites_total {LL : List (List Int)} (k : Nat) : ((classV LL k).map fun p => (sitesV LL p).length).sum = (classV LL (k + 1)).length := by
  have h1 := (next_class (LL := LL) k (List.Perm.refl _)).length_eq
  rw [← h1, List.length_flatMap]
  congr 1
  refine List.map_congr_left fun p _ => ?_
  simp [childrenV]
theorem levS_cls {LL : List (List Int)} (h : BasisOk LL) (m : Nat) : levS LL m = (List.range m).map fun k => ((classV LL k).length : Int) := by
  rw [levS]
  refine List.map_congr_left fun k _ => ?_
  rw [levL, (lev_class h k).length_eq]
theorem child_class {LL : List (List Int)} {P c : List Int} (h : InCl LL P) (h8 : P.length < 8) (hc : c ∈ childrenV LL P) : InCl LL c ∧ par c = P ∧ c ≠ [] ∧ IsP c := by
  obtain ⟨i, hi, rfl, ha⟩ := mem_children.1 hc
  obtain ⟨h1, h2, _⟩ := h
  have hp := childW_isP h2 (by omega) hi
  exact ⟨⟨h1, hp, ha⟩, par_child h2.perm hi, fun e => by have := childW_length hi; rw [e] at this; simp at this, hp⟩
end Go.Proofs.Yteplokddaebbeaa

/- What each function does, step by step, written by a program (Gen.lean); each equation is checked by the kernel. -/
namespace Go.Proofs.Yteplokddaebbeaa
open Go
set_option linter.unusedVariables false
set_option maxRecDepth 100000
namespace spec_ClassCounts
@[reducible] def cfg : Cfg := ⟨36, [(6, [5, 6, 7])], [(1, [5, 6, 7]), (0, [5])], [], [4], [], [17, 15, 81, 40, 36, 66, 59, 92, 87], [76, 85, 43, 4, 32, 37, 31]⟩
def q7 (pr : Prims) (R : Ending → World → Prop) : Exit → Env → World → Prop := fun ex e w => normQ ex (fun e w => contE pr cfg (sub (codeOf Try.f24) [1, 1, 1, 1, 1]) (fun e w => wpC pr PP cfg (DD pr) (sub (codeOf Try.f24) [1, 1, 1, 1, 1]) (retQ Try.f24.results.toList R) e w) e w) (retQ Try.f24.results.toList R) e w
def q8 (pr : Prims) (R : Ending → World → Prop) : Exit → Env → World → Prop := fun ex e w => blockQ ex 0 (q7 pr R) e w
def emb6 (out_5 : Sl) (all_6 : Sl) (k_7 : Int) : Env := [(5, Sl.v out_5), (6, Sl.v all_6), (7, vI k_7)]
def x0 (out_5 : Sl) : Env := [(5, Sl.v out_5)]
def S6 (pr : Prims) (Q : Exit → Env → World → Prop) : (Env → World → Prop) → Env → World → Prop := fun k e w => wpC pr PP cfg (DD pr) (sub (codeOf Try.f24) [1, 1, 1, 1, 0, 1, 0, 0]) (fun ex e w => normQ ex (fun e' w' => k (Env.restr e' (lookN cfg.loops (keyOf (sub (codeOf Try.f24) [1, 1, 1, 1, 0, 1, 0, 0])))) w') Q e w) e w
def B6 (pr : Prims) (out_5 : Sl) (all_6 : Sl) (k_7 : Int) (w : World) (k : Env → World → Prop) (Q : Exit → Env → World → Prop) : Prop :=
  S6 pr Q k (emb6 out_5 all_6 k_7) w
def L6 (pr : Prims) (out_5 : Sl) (all_6 : Sl) (k_7 : Int) (w : World) (Q : Exit → Env → World → Prop) : Prop :=
  pr.loop (S6 pr Q) (emb6 out_5 all_6 k_7) w
def E (pr : Prims) (list_0 : Sl) (n_1 : Int) (w : World) (R : Ending → World → Prop) : Prop :=
  wpC pr PP cfg (DD pr) (codeOf Try.f24) (retQ Try.f24.results.toList R) (argE 0 [Sl.v list_0, vI n_1]) w
theorem B6_eq (pr : Prims) (out_5 : Sl) (all_6 : Sl) (k_7 : Int) (w : World) (k : Env → World → Prop) (Q : Exit → Env → World → Prop) : B6 pr out_5 all_6 k_7 w k Q = (
  bif decide (k_7 < (all_6.n : Int)) then (
  pr.idxK 1 all_6 k_7 fun (a9 : Addr) =>
  pr.load1 .sl a9 w fun (ξ10 : Sl) =>
  pr.sem1 .sl PP (Instr.buildSlice T_Sint 1 #[(0, vI (ξ10.n : Int))]) w fun (ρ11 : Sl) ω12 =>
  pr.sem1 .sl PP (Builtin.append_ #[T_Sint, T_Sint] T_Sint #[Sl.v out_5, Sl.v ρ11]) ω12 fun (ρ13 : Sl) ω14 =>
  k (emb6 ρ13 all_6 (w64 (k_7 + 1))) ω14)
  else (
  Q (.exit 0) (x0 out_5) w)) := by kernel_rfl
theorem B6_s (out_5 : Sl) (all_6 : Sl) (k_7 : Int) (w : World) (k : Env → World → Prop) (Q : Exit → Env → World → Prop) : B6 std out_5 all_6 k_7 w k Q = (
  bif decide (k_7 < (all_6.n : Int)) then (
  idxK 1 all_6 k_7 fun (a9 : Addr) =>
  load1 .sl a9 w fun (ξ10 : Sl) =>
  sem1 .sl PP (Instr.buildSlice T_Sint 1 #[(0, vI (ξ10.n : Int))]) w fun (ρ11 : Sl) ω12 =>
  sem1 .sl PP (Builtin.append_ #[T_Sint, T_Sint] T_Sint #[Sl.v out_5, Sl.v ρ11]) ω12 fun (ρ13 : Sl) ω14 =>
  k (emb6 ρ13 all_6 (w64 (k_7 + 1))) ω14)
  else (
  Q (.exit 0) (x0 out_5) w)) := B6_eq std out_5 all_6 k_7 w k Q
theorem L6_rule (out_5 : Sl) (all_6 : Sl) (k_7 : Int) (w : World) (Q : Exit → Env → World → Prop) (I : Sl → Int → World → Prop) (μ : Sl → Int → World → Nat) (h0 : I out_5 k_7 w)
    (h : ∀ (out_5 : Sl) (k_7 : Int) (w' : World), I out_5 k_7 w' → B6 std out_5 all_6 k_7 w' (fun e2 w2 => ∃ out_5_n k_7_n, e2 = emb6 out_5_n all_6 k_7_n ∧ I out_5_n k_7_n w2 ∧ μ out_5_n k_7_n w2 < μ out_5 k_7 w') Q) :
    L6 std out_5 all_6 k_7 w Q := by
  unfold L6
  refine LoopE.intro (σ := Sl × Int) (step := S6 std Q) (fun s => emb6 s.1 all_6 s.2) (fun s w => I s.1 s.2 w) (fun s w => μ s.1 s.2 w) (out_5, k_7) rfl h0 ?_
  intro s w' hI
  have h1 := h s.1 s.2 w' hI
  unfold B6 at h1
  simp only [Prod.exists]
  exact h1
theorem A6_0_eq (pr : Prims) (out_5 : Sl) (w : World) (R : Ending → World → Prop) : (q8 pr R) (.exit 0) (x0 out_5) w = (
  R (.returned (Sl.v out_5)) w) := by kernel_rfl
theorem A6_0_s (out_5 : Sl) (w : World) (R : Ending → World → Prop) : (q8 std R) (.exit 0) (x0 out_5) w = (
  R (.returned (Sl.v out_5)) w) := A6_0_eq std out_5 w R
theorem E_eq (pr : Prims) (list_0 : Sl) (n_1 : Int) (w : World) (R : Ending → World → Prop) : E pr list_0 n_1 w R = (
  pr.sem1 .sl PP (Instr.buildSlice T_Sint 0 #[]) w fun (ρ0 : Sl) ω1 =>
  pr.call1 .bool PP F.spec_IsBasis #[Sl.v list_0] ω1 fun (ρ2 : Bool) ω3 =>
  bif !ρ2 then (
  R (.returned (Sl.v ρ0)) ω3)
  else (
  pr.pcall1 .bool PP F.spec_l1In #[vI n_1, vI 0, vI 6] fun (ρ4 : Bool) =>
  bif !ρ4 then (
  R (.returned (Sl.v ρ0)) ω3)
  else (
  pr.call1 .sl PP F.spec_l12Class #[Sl.v list_0, vI n_1] ω3 fun (ρ5 : Sl) ω6 =>
  L6 pr ρ0 ρ5 0 ω6 (q8 pr R)))) := by kernel_rfl
theorem E_s (list_0 : Sl) (n_1 : Int) (w : World) (R : Ending → World → Prop) : E std list_0 n_1 w R = (
  sem1 .sl PP (Instr.buildSlice T_Sint 0 #[]) w fun (ρ0 : Sl) ω1 =>
  call1 .bool PP F.spec_IsBasis #[Sl.v list_0] ω1 fun (ρ2 : Bool) ω3 =>
  bif !ρ2 then (
  R (.returned (Sl.v ρ0)) ω3)
  else (
  pcall1 .bool PP F.spec_l1In #[vI n_1, vI 0, vI 6] fun (ρ4 : Bool) =>
  bif !ρ4 then (
  R (.returned (Sl.v ρ0)) ω3)
  else (
  call1 .sl PP F.spec_l12Class #[Sl.v list_0, vI n_1] ω3 fun (ρ5 : Sl) ω6 =>
  L6 std ρ0 ρ5 0 ω6 (q8 std R)))) := E_eq std list_0 n_1 w R
theorem drawsOk : drawsOk PP cfg okD (codeOf Try.f24) = true := by kernel_rfl
theorem calls (list_0 : Sl) (n_1 : Int) {w : World} {R : Ending → World → Prop} (h : E std list_0 n_1 w R) : Calls PP F.spec_ClassCounts #[Sl.v list_0, vI n_1] w R :=
  calls_of noCount mixed drawOk Try.func24 rfl (c := cfg) (args := [Sl.v list_0, vI n_1]) rfl (Nat.le_of_ble_eq_true (by kernel_rfl)) drawsOk h
end spec_ClassCounts

namespace spec_l12Class
@[reducible] def cfg : Cfg := ⟨26, [(4, [0, 1, 5, 6, 7])], [(1, [0, 1, 5, 6, 7]), (0, [6])], [], [4], [], [17, 15, 81, 40, 36, 66, 59, 92, 87], [76, 85, 43, 4, 32, 37, 31]⟩
def q6 (pr : Prims) (R : Ending → World → Prop) : Exit → Env → World → Prop := fun ex e w => normQ ex (fun e w => contE pr cfg (sub (codeOf Try.f51) [1, 1, 1, 1]) (fun e w => wpC pr PP cfg (DD pr) (sub (codeOf Try.f51) [1, 1, 1, 1]) (retQ Try.f51.results.toList R) e w) e w) (retQ Try.f51.results.toList R) e w
def q7 (pr : Prims) (R : Ending → World → Prop) : Exit → Env → World → Prop := fun ex e w => blockQ ex 0 (q6 pr R) e w
def emb4 (list_0 : Sl) (n_1 : Int) (last_5 : Sl) (out_6 : Sl) (k_7 : Int) : Env := [(0, Sl.v list_0), (1, vI n_1), (5, Sl.v last_5), (6, Sl.v out_6), (7, vI k_7)]
def x0 (out_6 : Sl) : Env := [(6, Sl.v out_6)]
def S4 (pr : Prims) (Q : Exit → Env → World → Prop) : (Env → World → Prop) → Env → World → Prop := fun k e w => wpC pr PP cfg (DD pr) (sub (codeOf Try.f51) [1, 1, 1, 0, 1, 0, 0]) (fun ex e w => normQ ex (fun e' w' => k (Env.restr e' (lookN cfg.loops (keyOf (sub (codeOf Try.f51) [1, 1, 1, 0, 1, 0, 0])))) w') Q e w) e w
def B4 (pr : Prims) (list_0 : Sl) (n_1 : Int) (last_5 : Sl) (out_6 : Sl) (k_7 : Int) (w : World) (k : Env → World → Prop) (Q : Exit → Env → World → Prop) : Prop :=
  S4 pr Q k (emb4 list_0 n_1 last_5 out_6 k_7) w
def L4 (pr : Prims) (list_0 : Sl) (n_1 : Int) (last_5 : Sl) (out_6 : Sl) (k_7 : Int) (w : World) (Q : Exit → Env → World → Prop) : Prop :=
  pr.loop (S4 pr Q) (emb4 list_0 n_1 last_5 out_6 k_7) w
def E (pr : Prims) (list_0 : Sl) (n_1 : Int) (w : World) (R : Ending → World → Prop) : Prop :=
  wpC pr PP cfg (DD pr) (codeOf Try.f51) (retQ Try.f51.results.toList R) (argE 0 [Sl.v list_0, vI n_1]) w
theorem B4_eq (pr : Prims) (list_0 : Sl) (n_1 : Int) (last_5 : Sl) (out_6 : Sl) (k_7 : Int) (w : World) (k : Env → World → Prop) (Q : Exit → Env → World → Prop) : B4 pr list_0 n_1 last_5 out_6 k_7 w k Q = (
  bif decide (k_7 ≤ n_1) then (
  pr.call1 .sl PP F.spec_l12Next #[Sl.v list_0, Sl.v last_5, vI k_7] w fun (ρ8 : Sl) ω9 =>
  pr.sem1 .sl PP (Instr.buildSlice T_SSSint 1 #[(0, Sl.v ρ8)]) ω9 fun (ρ10 : Sl) ω11 =>
  pr.sem1 .sl PP (Builtin.append_ #[T_SSSint, T_SSSint] T_SSSint #[Sl.v out_6, Sl.v ρ10]) ω11 fun (ρ12 : Sl) ω13 =>
  k (emb4 list_0 n_1 ρ8 ρ12 (w64 (k_7 + 1))) ω13)
  else (
  Q (.exit 0) (x0 out_6) w)) := by kernel_rfl
theorem B4_s (list_0 : Sl) (n_1 : Int) (last_5 : Sl) (out_6 : Sl) (k_7 : Int) (w : World) (k : Env → World → Prop) (Q : Exit → Env → World → Prop) : B4 std list_0 n_1 last_5 out_6 k_7 w k Q = (
  bif decide (k_7 ≤ n_1) then (
  call1 .sl PP F.spec_l12Next #[Sl.v list_0, Sl.v last_5, vI k_7] w fun (ρ8 : Sl) ω9 =>
  sem1 .sl PP (Instr.buildSlice T_SSSint 1 #[(0, Sl.v ρ8)]) ω9 fun (ρ10 : Sl) ω11 =>
  sem1 .sl PP (Builtin.append_ #[T_SSSint, T_SSSint] T_SSSint #[Sl.v out_6, Sl.v ρ10]) ω11 fun (ρ12 : Sl) ω13 =>
  k (emb4 list_0 n_1 ρ8 ρ12 (w64 (k_7 + 1))) ω13)
  else (
  Q (.exit 0) (x0 out_6) w)) := B4_eq std list_0 n_1 last_5 out_6 k_7 w k Q
theorem L4_rule (list_0 : Sl) (n_1 : Int) (last_5 : Sl) (out_6 : Sl) (k_7 : Int) (w : World) (Q : Exit → Env → World → Prop) (I : Sl → Sl → Int → World → Prop) (μ : Sl → Sl → Int → World → Nat) (h0 : I last_5 out_6 k_7 w)
    (h : ∀ (last_5 : Sl) (out_6 : Sl) (k_7 : Int) (w' : World), I last_5 out_6 k_7 w' → B4 std list_0 n_1 last_5 out_6 k_7 w' (fun e2 w2 => ∃ last_5_n out_6_n k_7_n, e2 = emb4 list_0 n_1 last_5_n out_6_n k_7_n ∧ I last_5_n out_6_n k_7_n w2 ∧ μ last_5_n out_6_n k_7_n w2 < μ last_5 out_6 k_7 w') Q) :
    L4 std list_0 n_1 last_5 out_6 k_7 w Q := by
  unfold L4
  refine LoopE.intro (σ := Sl × Sl × Int) (step := S4 std Q) (fun s => emb4 list_0 n_1 s.1 s.2.1 s.2.2) (fun s w => I s.1 s.2.1 s.2.2 w) (fun s w => μ s.1 s.2.1 s.2.2 w) (last_5, out_6, k_7) rfl h0 ?_
  intro s w' hI
  have h1 := h s.1 s.2.1 s.2.2 w' hI
  unfold B4 at h1
  simp only [Prod.exists]
  exact h1
theorem A4_0_eq (pr : Prims) (out_6 : Sl) (w : World) (R : Ending → World → Prop) : (q7 pr R) (.exit 0) (x0 out_6) w = (
  R (.returned (Sl.v out_6)) w) := by kernel_rfl
theorem A4_0_s (out_6 : Sl) (w : World) (R : Ending → World → Prop) : (q7 std R) (.exit 0) (x0 out_6) w = (
  R (.returned (Sl.v out_6)) w) := A4_0_eq std out_6 w R
theorem E_eq (pr : Prims) (list_0 : Sl) (n_1 : Int) (w : World) (R : Ending → World → Prop) : E pr list_0 n_1 w R = (
  pr.sem1 .sl PP (Instr.buildSlice T_Sint 0 #[]) w fun (ρ0 : Sl) ω1 =>
  pr.sem1 .sl PP (Instr.buildSlice T_SSint 1 #[(0, Sl.v ρ0)]) ω1 fun (ρ2 : Sl) ω3 =>
  pr.sem1 .sl PP (Instr.buildSlice T_SSSint 1 #[(0, Sl.v ρ2)]) ω3 fun (ρ4 : Sl) ω5 =>
  L4 pr list_0 n_1 ρ2 ρ4 1 ω5 (q7 pr R)) := by kernel_rfl
theorem E_s (list_0 : Sl) (n_1 : Int) (w : World) (R : Ending → World → Prop) : E std list_0 n_1 w R = (
  sem1 .sl PP (Instr.buildSlice T_Sint 0 #[]) w fun (ρ0 : Sl) ω1 =>
  sem1 .sl PP (Instr.buildSlice T_SSint 1 #[(0, Sl.v ρ0)]) ω1 fun (ρ2 : Sl) ω3 =>
  sem1 .sl PP (Instr.buildSlice T_SSSint 1 #[(0, Sl.v ρ2)]) ω3 fun (ρ4 : Sl) ω5 =>
  L4 std list_0 n_1 ρ2 ρ4 1 ω5 (q7 std R)) := E_eq std list_0 n_1 w R
theorem drawsOk : drawsOk PP cfg okD (codeOf Try.f51) = true := by kernel_rfl
theorem calls (list_0 : Sl) (n_1 : Int) {w : World} {R : Ending → World → Prop} (h : E std list_0 n_1 w R) : Calls PP F.spec_l12Class #[Sl.v list_0, vI n_1] w R :=
  calls_of noCount mixed drawOk Try.func51 rfl (c := cfg) (args := [Sl.v list_0, vI n_1]) rfl (Nat.le_of_ble_eq_true (by kernel_rfl)) drawsOk h
end spec_l12Class

namespace spec_l12Next
@[reducible] def cfg : Cfg := ⟨67, [(10, [0, 1, 2, 7, 8, 9, 10, 11]), (6, [0, 1, 2, 7, 8, 9]), (3, [0, 1, 2, 7, 8])], [(5, [0, 1, 2, 7, 8, 9, 10, 11]), (4, [0, 1, 2, 7, 8, 9, 10]), (3, [0, 1, 2, 7, 8, 9]), (2, [0, 1, 2, 7, 8]), (1, [0, 1, 2, 7, 8]), (0, [7])], [], [6], [], [17, 15, 81, 40, 36, 66, 59, 92, 87], [76, 85, 43, 4, 32, 37, 31]⟩
def q2 (pr : Prims) (R : Ending → World → Prop) : Exit → Env → World → Prop := fun ex e w => normQ ex (fun e w => contE pr cfg (sub (codeOf Try.f70) [1, 1, 1]) (fun e w => wpC pr PP cfg (DD pr) (sub (codeOf Try.f70) [1, 1, 1]) (retQ Try.f70.results.toList R) e w) e w) (retQ Try.f70.results.toList R) e w
def q3 (pr : Prims) (R : Ending → World → Prop) : Exit → Env → World → Prop := fun ex e w => blockQ ex 0 (q2 pr R) e w
def q4 (pr : Prims) (k : Env → World → Prop) (Q : Exit → Env → World → Prop) : Exit → Env → World → Prop := fun ex e w => normQ ex (fun e w => contE pr cfg (sub (codeOf Try.f70) [1, 1, 0, 1, 0, 0, 1, 1]) (fun e w => wpC pr PP cfg (DD pr) (sub (codeOf Try.f70) [1, 1, 0, 1, 0, 0, 1, 1]) (fun ex e w => normQ ex (fun e' w' => k (Env.restr e' (lookN cfg.loops (keyOf (sub (codeOf Try.f70) [1, 1, 0, 1, 0, 0])))) w') Q e w) e w) e w) (fun ex e w => normQ ex (fun e' w' => k (Env.restr e' (lookN cfg.loops (keyOf (sub (codeOf Try.f70) [1, 1, 0, 1, 0, 0])))) w') Q e w) e w
def q5 (pr : Prims) (k : Env → World → Prop) (Q : Exit → Env → World → Prop) : Exit → Env → World → Prop := fun ex e w => blockQ ex 1 (q4 pr k Q) e w
def q6 (pr : Prims) (k : Env → World → Prop) (Q : Exit → Env → World → Prop) : Exit → Env → World → Prop := fun ex e w => blockQ ex 2 (q5 pr k Q) e w
def q7 (pr : Prims) (k : Env → World → Prop) (Q : Exit → Env → World → Prop) : Exit → Env → World → Prop := fun ex e w => normQ ex (fun e w => contE pr cfg (sub (codeOf Try.f70) [1, 1, 0, 1, 0, 0, 1, 0, 0, 1, 0, 0, 1, 1]) (fun e w => wpC pr PP cfg (DD pr) (sub (codeOf Try.f70) [1, 1, 0, 1, 0, 0, 1, 0, 0, 1, 0, 0, 1, 1]) (fun ex e w => normQ ex (fun e' w' => k (Env.restr e' (lookN cfg.loops (keyOf (sub (codeOf Try.f70) [1, 1, 0, 1, 0, 0, 1, 0, 0, 1, 0, 0])))) w') Q e w) e w) e w) (fun ex e w => normQ ex (fun e' w' => k (Env.restr e' (lookN cfg.loops (keyOf (sub (codeOf Try.f70) [1, 1, 0, 1, 0, 0, 1, 0, 0, 1, 0, 0])))) w') Q e w) e w
def q8 (pr : Prims) (k : Env → World → Prop) (Q : Exit → Env → World → Prop) : Exit → Env → World → Prop := fun ex e w => blockQ ex 3 (q7 pr k Q) e w
def q11 (pr : Prims) (k : Env → World → Prop) (Q : Exit → Env → World → Prop) : Exit → Env → World → Prop := fun ex e w => normQ ex (fun e w => contE pr cfg (sub (codeOf Try.f70) [1, 1, 0, 1, 0, 0, 1, 0, 0, 1, 0, 0, 1, 0, 0, 1, 1]) (fun e w => wpC pr PP cfg (DD pr) (sub (codeOf Try.f70) [1, 1, 0, 1, 0, 0, 1, 0, 0, 1, 0, 0, 1, 0, 0, 1, 1]) (q8 pr k Q) e w) e w) (q8 pr k Q) e w
def q12 (pr : Prims) (k : Env → World → Prop) (Q : Exit → Env → World → Prop) : Exit → Env → World → Prop := fun ex e w => blockQ ex 4 (q11 pr k Q) e w
def emb3 (list_0 : Sl) (last_1 : Sl) (n_2 : Int) (out_7 : Sl) (k_8 : Int) : Env := [(0, Sl.v list_0), (1, Sl.v last_1), (2, vI n_2), (7, Sl.v out_7), (8, vI k_8)]
def emb6 (list_0 : Sl) (last_1 : Sl) (n_2 : Int) (out_7 : Sl) (k_8 : Int) (v_9 : Int) : Env := [(0, Sl.v list_0), (1, Sl.v last_1), (2, vI n_2), (7, Sl.v out_7), (8, vI k_8), (9, vI v_9)]
def emb10 (list_0 : Sl) (last_1 : Sl) (n_2 : Int) (out_7 : Sl) (k_8 : Int) (v_9 : Int) (p_10 : Sl) (i_11 : Int) : Env := [(0, Sl.v list_0), (1, Sl.v last_1), (2, vI n_2), (7, Sl.v out_7), (8, vI k_8), (9, vI v_9), (10, Sl.v p_10), (11, vI i_11)]
def x4 (list_0 : Sl) (last_1 : Sl) (n_2 : Int) (out_7 : Sl) (k_8 : Int) (v_9 : Int) (p_10 : Sl) : Env := [(0, Sl.v list_0), (1, Sl.v last_1), (2, vI n_2), (7, Sl.v out_7), (8, vI k_8), (9, vI v_9), (10, Sl.v p_10)]
def x2 (list_0 : Sl) (last_1 : Sl) (n_2 : Int) (out_7 : Sl) (k_8 : Int) : Env := [(0, Sl.v list_0), (1, Sl.v last_1), (2, vI n_2), (7, Sl.v out_7), (8, vI k_8)]
def x0 (out_7 : Sl) : Env := [(7, Sl.v out_7)]
def S10 (pr : Prims) (Q : Exit → Env → World → Prop) : (Env → World → Prop) → Env → World → Prop := fun k e w => wpC pr PP cfg (DD pr) (sub (codeOf Try.f70) [1, 1, 0, 1, 0, 0, 1, 0, 0, 1, 0, 0, 1, 0, 0, 1, 0, 1, 0, 0]) (fun ex e w => normQ ex (fun e' w' => k (Env.restr e' (lookN cfg.loops (keyOf (sub (codeOf Try.f70) [1, 1, 0, 1, 0, 0, 1, 0, 0, 1, 0, 0, 1, 0, 0, 1, 0, 1, 0, 0])))) w') Q e w) e w
def S6 (pr : Prims) (Q : Exit → Env → World → Prop) : (Env → World → Prop) → Env → World → Prop := fun k e w => wpC pr PP cfg (DD pr) (sub (codeOf Try.f70) [1, 1, 0, 1, 0, 0, 1, 0, 0, 1, 0, 0]) (fun ex e w => normQ ex (fun e' w' => k (Env.restr e' (lookN cfg.loops (keyOf (sub (codeOf Try.f70) [1, 1, 0, 1, 0, 0, 1, 0, 0, 1, 0, 0])))) w') Q e w) e w
def S3 (pr : Prims) (Q : Exit → Env → World → Prop) : (Env → World → Prop) → Env → World → Prop := fun k e w => wpC pr PP cfg (DD pr) (sub (codeOf Try.f70) [1, 1, 0, 1, 0, 0]) (fun ex e w => normQ ex (fun e' w' => k (Env.restr e' (lookN cfg.loops (keyOf (sub (codeOf Try.f70) [1, 1, 0, 1, 0, 0])))) w') Q e w) e w
def B10 (pr : Prims) (list_0 : Sl) (last_1 : Sl) (n_2 : Int) (out_7 : Sl) (k_8 : Int) (v_9 : Int) (p_10 : Sl) (i_11 : Int) (w : World) (k : Env → World → Prop) (Q : Exit → Env → World → Prop) : Prop :=
  S10 pr Q k (emb10 list_0 last_1 n_2 out_7 k_8 v_9 p_10 i_11) w
def L10 (pr : Prims) (list_0 : Sl) (last_1 : Sl) (n_2 : Int) (out_7 : Sl) (k_8 : Int) (v_9 : Int) (p_10 : Sl) (i_11 : Int) (w : World) (Q : Exit → Env → World → Prop) : Prop :=
  pr.loop (S10 pr Q) (emb10 list_0 last_1 n_2 out_7 k_8 v_9 p_10 i_11) w
def B6 (pr : Prims) (list_0 : Sl) (last_1 : Sl) (n_2 : Int) (out_7 : Sl) (k_8 : Int) (v_9 : Int) (w : World) (k : Env → World → Prop) (Q : Exit → Env → World → Prop) : Prop :=
  S6 pr Q k (emb6 list_0 last_1 n_2 out_7 k_8 v_9) w
def L6 (pr : Prims) (list_0 : Sl) (last_1 : Sl) (n_2 : Int) (out_7 : Sl) (k_8 : Int) (v_9 : Int) (w : World) (Q : Exit → Env → World → Prop) : Prop :=
  pr.loop (S6 pr Q) (emb6 list_0 last_1 n_2 out_7 k_8 v_9) w
def B3 (pr : Prims) (list_0 : Sl) (last_1 : Sl) (n_2 : Int) (out_7 : Sl) (k_8 : Int) (w : World) (k : Env → World → Prop) (Q : Exit → Env → World → Prop) : Prop :=
  S3 pr Q k (emb3 list_0 last_1 n_2 out_7 k_8) w
def L3 (pr : Prims) (list_0 : Sl) (last_1 : Sl) (n_2 : Int) (out_7 : Sl) (k_8 : Int) (w : World) (Q : Exit → Env → World → Prop) : Prop :=
  pr.loop (S3 pr Q) (emb3 list_0 last_1 n_2 out_7 k_8) w
def E (pr : Prims) (list_0 : Sl) (last_1 : Sl) (n_2 : Int) (w : World) (R : Ending → World → Prop) : Prop :=
  wpC pr PP cfg (DD pr) (codeOf Try.f70) (retQ Try.f70.results.toList R) (argE 0 [Sl.v list_0, Sl.v last_1, vI n_2]) w
theorem B10_eq (pr : Prims) (list_0 : Sl) (last_1 : Sl) (n_2 : Int) (out_7 : Sl) (k_8 : Int) (v_9 : Int) (p_10 : Sl) (i_11 : Int) (w : World) (k : Env → World → Prop) (Q : Exit → Env → World → Prop) : B10 pr list_0 last_1 n_2 out_7 k_8 v_9 p_10 i_11 w k Q = (
  pr.idxK 1 last_1 k_8 fun (a13 : Addr) =>
  pr.load1 .sl a13 w fun (ξ14 : Sl) =>
  bif decide (i_11 < (ξ14.n : Int)) then (
  pr.drewAll w fun ω15 =>
  pr.idxK 1 last_1 k_8 fun (a16 : Addr) =>
  pr.idxK 1 last_1 k_8 fun (a17 : Addr) =>
  (pr.load1 .sl a16 ω15 fun (ξ18 : Sl) =>
  pr.idxK 1 ξ18 i_11 fun (a19 : Addr) =>
  (pr.load1 (.int .i64) a19 ω15 fun (ξ20 : Int) =>
  pr.load1 .sl a17 ω15 fun (ξ21 : Sl) =>
  pr.idxK 1 ξ21 i_11 fun (a22 : Addr) =>
  pr.load1 (.int .i64) a22 ω15 fun (ξ23 : Int) =>
  pr.pcall1 (.int .i64) PP F.spec_l1Bit #[.bool (decide (ξ23 ≥ v_9))] fun (ρ24 : Int) =>
  pr.sem1 .sl PP (Instr.buildSlice T_Sint 1 #[(0, vI (w64 (ξ20 + ρ24)))]) ω15 fun (ρ25 : Sl) ω26 =>
  pr.sem1 .sl PP (Builtin.append_ #[T_Sint, T_Sint] T_Sint #[Sl.v p_10, Sl.v ρ25]) ω26 fun (ρ27 : Sl) ω28 =>
  k (emb10 list_0 last_1 n_2 out_7 k_8 v_9 ρ27 (w64 (i_11 + 1))) ω28) ∧
  (pr.load1 .sl a17 ω15 fun (ξ29 : Sl) =>
  pr.idxK 1 ξ29 i_11 fun (a30 : Addr) =>
  (pr.load1 (.int .i64) a19 ω15 fun (ξ31 : Int) =>
  pr.load1 (.int .i64) a30 ω15 fun (ξ32 : Int) =>
  pr.pcall1 (.int .i64) PP F.spec_l1Bit #[.bool (decide (ξ32 ≥ v_9))] fun (ρ33 : Int) =>
  pr.sem1 .sl PP (Instr.buildSlice T_Sint 1 #[(0, vI (w64 (ξ31 + ρ33)))]) ω15 fun (ρ34 : Sl) ω35 =>
  pr.sem1 .sl PP (Builtin.append_ #[T_Sint, T_Sint] T_Sint #[Sl.v p_10, Sl.v ρ34]) ω35 fun (ρ36 : Sl) ω37 =>
  k (emb10 list_0 last_1 n_2 out_7 k_8 v_9 ρ36 (w64 (i_11 + 1))) ω37) ∧
  (pr.load1 (.int .i64) a30 ω15 fun (ξ38 : Int) =>
  (pr.load1 (.int .i64) a19 ω15 fun (ξ39 : Int) =>
  pr.pcall1 (.int .i64) PP F.spec_l1Bit #[.bool (decide (ξ38 ≥ v_9))] fun (ρ40 : Int) =>
  pr.sem1 .sl PP (Instr.buildSlice T_Sint 1 #[(0, vI (w64 (ξ39 + ρ40)))]) ω15 fun (ρ41 : Sl) ω42 =>
  pr.sem1 .sl PP (Builtin.append_ #[T_Sint, T_Sint] T_Sint #[Sl.v p_10, Sl.v ρ41]) ω42 fun (ρ43 : Sl) ω44 =>
  k (emb10 list_0 last_1 n_2 out_7 k_8 v_9 ρ43 (w64 (i_11 + 1))) ω44) ∧
  (pr.pcall1 (.int .i64) PP F.spec_l1Bit #[.bool (decide (ξ38 ≥ v_9))] fun (ρ45 : Int) =>
  pr.load1 (.int .i64) a19 ω15 fun (ξ46 : Int) =>
  pr.sem1 .sl PP (Instr.buildSlice T_Sint 1 #[(0, vI (w64 (ξ46 + ρ45)))]) ω15 fun (ρ47 : Sl) ω48 =>
  pr.sem1 .sl PP (Builtin.append_ #[T_Sint, T_Sint] T_Sint #[Sl.v p_10, Sl.v ρ47]) ω48 fun (ρ49 : Sl) ω50 =>
  k (emb10 list_0 last_1 n_2 out_7 k_8 v_9 ρ49 (w64 (i_11 + 1))) ω50)))) ∧
  (pr.load1 .sl a17 ω15 fun (ξ51 : Sl) =>
  pr.idxK 1 ξ51 i_11 fun (a52 : Addr) =>
  (pr.load1 .sl a16 ω15 fun (ξ53 : Sl) =>
  pr.idxK 1 ξ53 i_11 fun (a54 : Addr) =>
  (pr.load1 (.int .i64) a54 ω15 fun (ξ55 : Int) =>
  pr.load1 (.int .i64) a52 ω15 fun (ξ56 : Int) =>
  pr.pcall1 (.int .i64) PP F.spec_l1Bit #[.bool (decide (ξ56 ≥ v_9))] fun (ρ57 : Int) =>
  pr.sem1 .sl PP (Instr.buildSlice T_Sint 1 #[(0, vI (w64 (ξ55 + ρ57)))]) ω15 fun (ρ58 : Sl) ω59 =>
  pr.sem1 .sl PP (Builtin.append_ #[T_Sint, T_Sint] T_Sint #[Sl.v p_10, Sl.v ρ58]) ω59 fun (ρ60 : Sl) ω61 =>
  k (emb10 list_0 last_1 n_2 out_7 k_8 v_9 ρ60 (w64 (i_11 + 1))) ω61) ∧
  (pr.load1 (.int .i64) a52 ω15 fun (ξ62 : Int) =>
  (pr.load1 (.int .i64) a54 ω15 fun (ξ63 : Int) =>
  pr.pcall1 (.int .i64) PP F.spec_l1Bit #[.bool (decide (ξ62 ≥ v_9))] fun (ρ64 : Int) =>
  pr.sem1 .sl PP (Instr.buildSlice T_Sint 1 #[(0, vI (w64 (ξ63 + ρ64)))]) ω15 fun (ρ65 : Sl) ω66 =>
  pr.sem1 .sl PP (Builtin.append_ #[T_Sint, T_Sint] T_Sint #[Sl.v p_10, Sl.v ρ65]) ω66 fun (ρ67 : Sl) ω68 =>
  k (emb10 list_0 last_1 n_2 out_7 k_8 v_9 ρ67 (w64 (i_11 + 1))) ω68) ∧
  (pr.pcall1 (.int .i64) PP F.spec_l1Bit #[.bool (decide (ξ62 ≥ v_9))] fun (ρ69 : Int) =>
  pr.load1 (.int .i64) a54 ω15 fun (ξ70 : Int) =>
  pr.sem1 .sl PP (Instr.buildSlice T_Sint 1 #[(0, vI (w64 (ξ70 + ρ69)))]) ω15 fun (ρ71 : Sl) ω72 =>
  pr.sem1 .sl PP (Builtin.append_ #[T_Sint, T_Sint] T_Sint #[Sl.v p_10, Sl.v ρ71]) ω72 fun (ρ73 : Sl) ω74 =>
  k (emb10 list_0 last_1 n_2 out_7 k_8 v_9 ρ73 (w64 (i_11 + 1))) ω74))) ∧
  (pr.load1 (.int .i64) a52 ω15 fun (ξ75 : Int) =>
  (pr.load1 .sl a16 ω15 fun (ξ76 : Sl) =>
  pr.idxK 1 ξ76 i_11 fun (a77 : Addr) =>
  (pr.load1 (.int .i64) a77 ω15 fun (ξ78 : Int) =>
  pr.pcall1 (.int .i64) PP F.spec_l1Bit #[.bool (decide (ξ75 ≥ v_9))] fun (ρ79 : Int) =>
  pr.sem1 .sl PP (Instr.buildSlice T_Sint 1 #[(0, vI (w64 (ξ78 + ρ79)))]) ω15 fun (ρ80 : Sl) ω81 =>
  pr.sem1 .sl PP (Builtin.append_ #[T_Sint, T_Sint] T_Sint #[Sl.v p_10, Sl.v ρ80]) ω81 fun (ρ82 : Sl) ω83 =>
  k (emb10 list_0 last_1 n_2 out_7 k_8 v_9 ρ82 (w64 (i_11 + 1))) ω83) ∧
  (pr.pcall1 (.int .i64) PP F.spec_l1Bit #[.bool (decide (ξ75 ≥ v_9))] fun (ρ84 : Int) =>
  pr.load1 (.int .i64) a77 ω15 fun (ξ85 : Int) =>
  pr.sem1 .sl PP (Instr.buildSlice T_Sint 1 #[(0, vI (w64 (ξ85 + ρ84)))]) ω15 fun (ρ86 : Sl) ω87 =>
  pr.sem1 .sl PP (Builtin.append_ #[T_Sint, T_Sint] T_Sint #[Sl.v p_10, Sl.v ρ86]) ω87 fun (ρ88 : Sl) ω89 =>
  k (emb10 list_0 last_1 n_2 out_7 k_8 v_9 ρ88 (w64 (i_11 + 1))) ω89)) ∧
  (pr.pcall1 (.int .i64) PP F.spec_l1Bit #[.bool (decide (ξ75 ≥ v_9))] fun (ρ90 : Int) =>
  pr.load1 .sl a16 ω15 fun (ξ91 : Sl) =>
  pr.idxK 1 ξ91 i_11 fun (a92 : Addr) =>
  pr.load1 (.int .i64) a92 ω15 fun (ξ93 : Int) =>
  pr.sem1 .sl PP (Instr.buildSlice T_Sint 1 #[(0, vI (w64 (ξ93 + ρ90)))]) ω15 fun (ρ94 : Sl) ω95 =>
  pr.sem1 .sl PP (Builtin.append_ #[T_Sint, T_Sint] T_Sint #[Sl.v p_10, Sl.v ρ94]) ω95 fun (ρ96 : Sl) ω97 =>
  k (emb10 list_0 last_1 n_2 out_7 k_8 v_9 ρ96 (w64 (i_11 + 1))) ω97))))
  else (
  Q (.exit 4) (x4 list_0 last_1 n_2 out_7 k_8 v_9 p_10) w)) := by kernel_rfl
theorem B10_s (list_0 : Sl) (last_1 : Sl) (n_2 : Int) (out_7 : Sl) (k_8 : Int) (v_9 : Int) (p_10 : Sl) (i_11 : Int) (w : World) (k : Env → World → Prop) (Q : Exit → Env → World → Prop) : B10 std list_0 last_1 n_2 out_7 k_8 v_9 p_10 i_11 w k Q = (
  idxK 1 last_1 k_8 fun (a13 : Addr) =>
  load1 .sl a13 w fun (ξ14 : Sl) =>
  bif decide (i_11 < (ξ14.n : Int)) then (
  drewAll w fun ω15 =>
  idxK 1 last_1 k_8 fun (a16 : Addr) =>
  idxK 1 last_1 k_8 fun (a17 : Addr) =>
  (load1 .sl a16 ω15 fun (ξ18 : Sl) =>
  idxK 1 ξ18 i_11 fun (a19 : Addr) =>
  (load1 (.int .i64) a19 ω15 fun (ξ20 : Int) =>
  load1 .sl a17 ω15 fun (ξ21 : Sl) =>
  idxK 1 ξ21 i_11 fun (a22 : Addr) =>
  load1 (.int .i64) a22 ω15 fun (ξ23 : Int) =>
  pcall1 (.int .i64) PP F.spec_l1Bit #[.bool (decide (ξ23 ≥ v_9))] fun (ρ24 : Int) =>
  sem1 .sl PP (Instr.buildSlice T_Sint 1 #[(0, vI (w64 (ξ20 + ρ24)))]) ω15 fun (ρ25 : Sl) ω26 =>
  sem1 .sl PP (Builtin.append_ #[T_Sint, T_Sint] T_Sint #[Sl.v p_10, Sl.v ρ25]) ω26 fun (ρ27 : Sl) ω28 =>
  k (emb10 list_0 last_1 n_2 out_7 k_8 v_9 ρ27 (w64 (i_11 + 1))) ω28) ∧
  (load1 .sl a17 ω15 fun (ξ29 : Sl) =>
  idxK 1 ξ29 i_11 fun (a30 : Addr) =>
  (load1 (.int .i64) a19 ω15 fun (ξ31 : Int) =>
  load1 (.int .i64) a30 ω15 fun (ξ32 : Int) =>
  pcall1 (.int .i64) PP F.spec_l1Bit #[.bool (decide (ξ32 ≥ v_9))] fun (ρ33 : Int) =>
  sem1 .sl PP (Instr.buildSlice T_Sint 1 #[(0, vI (w64 (ξ31 + ρ33)))]) ω15 fun (ρ34 : Sl) ω35 =>
  sem1 .sl PP (Builtin.append_ #[T_Sint, T_Sint] T_Sint #[Sl.v p_10, Sl.v ρ34]) ω35 fun (ρ36 : Sl) ω37 =>
  k (emb10 list_0 last_1 n_2 out_7 k_8 v_9 ρ36 (w64 (i_11 + 1))) ω37) ∧
  (load1 (.int .i64) a30 ω15 fun (ξ38 : Int) =>
  (load1 (.int .i64) a19 ω15 fun (ξ39 : Int) =>
  pcall1 (.int .i64) PP F.spec_l1Bit #[.bool (decide (ξ38 ≥ v_9))] fun (ρ40 : Int) =>
  sem1 .sl PP (Instr.buildSlice T_Sint 1 #[(0, vI (w64 (ξ39 + ρ40)))]) ω15 fun (ρ41 : Sl) ω42 =>
  sem1 .sl PP (Builtin.append_ #[T_Sint, T_Sint] T_Sint #[Sl.v p_10, Sl.v ρ41]) ω42 fun (ρ43 : Sl) ω44 =>
  k (emb10 list_0 last_1 n_2 out_7 k_8 v_9 ρ43 (w64 (i_11 + 1))) ω44) ∧
  (pcall1 (.int .i64) PP F.spec_l1Bit #[.bool (decide (ξ38 ≥ v_9))] fun (ρ45 : Int) =>
  load1 (.int .i64) a19 ω15 fun (ξ46 : Int) =>
  sem1 .sl PP (Instr.buildSlice T_Sint 1 #[(0, vI (w64 (ξ46 + ρ45)))]) ω15 fun (ρ47 : Sl) ω48 =>
  sem1 .sl PP (Builtin.append_ #[T_Sint, T_Sint] T_Sint #[Sl.v p_10, Sl.v ρ47]) ω48 fun (ρ49 : Sl) ω50 =>
  k (emb10 list_0 last_1 n_2 out_7 k_8 v_9 ρ49 (w64 (i_11 + 1))) ω50)))) ∧
  (load1 .sl a17 ω15 fun (ξ51 : Sl) =>
  idxK 1 ξ51 i_11 fun (a52 : Addr) =>
  (load1 .sl a16 ω15 fun (ξ53 : Sl) =>
  idxK 1 ξ53 i_11 fun (a54 : Addr) =>
  (load1 (.int .i64) a54 ω15 fun (ξ55 : Int) =>
  load1 (.int .i64) a52 ω15 fun (ξ56 : Int) =>
  pcall1 (.int .i64) PP F.spec_l1Bit #[.bool (decide (ξ56 ≥ v_9))] fun (ρ57 : Int) =>
  sem1 .sl PP (Instr.buildSlice T_Sint 1 #[(0, vI (w64 (ξ55 + ρ57)))]) ω15 fun (ρ58 : Sl) ω59 =>
  sem1 .sl PP (Builtin.append_ #[T_Sint, T_Sint] T_Sint #[Sl.v p_10, Sl.v ρ58]) ω59 fun (ρ60 : Sl) ω61 =>
  k (emb10 list_0 last_1 n_2 out_7 k_8 v_9 ρ60 (w64 (i_11 + 1))) ω61) ∧
  (load1 (.int .i64) a52 ω15 fun (ξ62 : Int) =>
  (load1 (.int .i64) a54 ω15 fun (ξ63 : Int) =>
  pcall1 (.int .i64) PP F.spec_l1Bit #[.bool (decide (ξ62 ≥ v_9))] fun (ρ64 : Int) =>
  sem1 .sl PP (Instr.buildSlice T_Sint 1 #[(0, vI (w64 (ξ63 + ρ64)))]) ω15 fun (ρ65 : Sl) ω66 =>
  sem1 .sl PP (Builtin.append_ #[T_Sint, T_Sint] T_Sint #[Sl.v p_10, Sl.v ρ65]) ω66 fun (ρ67 : Sl) ω68 =>
  k (emb10 list_0 last_1 n_2 out_7 k_8 v_9 ρ67 (w64 (i_11 + 1))) ω68) ∧
  (pcall1 (.int .i64) PP F.spec_l1Bit #[.bool (decide (ξ62 ≥ v_9))] fun (ρ69 : Int) =>
  load1 (.int .i64) a54 ω15 fun (ξ70 : Int) =>
  sem1 .sl PP (Instr.buildSlice T_Sint 1 #[(0, vI (w64 (ξ70 + ρ69)))]) ω15 fun (ρ71 : Sl) ω72 =>
  sem1 .sl PP (Builtin.append_ #[T_Sint, T_Sint] T_Sint #[Sl.v p_10, Sl.v ρ71]) ω72 fun (ρ73 : Sl) ω74 =>
  k (emb10 list_0 last_1 n_2 out_7 k_8 v_9 ρ73 (w64 (i_11 + 1))) ω74))) ∧
  (load1 (.int .i64) a52 ω15 fun (ξ75 : Int) =>
  (load1 .sl a16 ω15 fun (ξ76 : Sl) =>
  idxK 1 ξ76 i_11 fun (a77 : Addr) =>
  (load1 (.int .i64) a77 ω15 fun (ξ78 : Int) =>
  pcall1 (.int .i64) PP F.spec_l1Bit #[.bool (decide (ξ75 ≥ v_9))] fun (ρ79 : Int) =>
  sem1 .sl PP (Instr.buildSlice T_Sint 1 #[(0, vI (w64 (ξ78 + ρ79)))]) ω15 fun (ρ80 : Sl) ω81 =>
  sem1 .sl PP (Builtin.append_ #[T_Sint, T_Sint] T_Sint #[Sl.v p_10, Sl.v ρ80]) ω81 fun (ρ82 : Sl) ω83 =>
  k (emb10 list_0 last_1 n_2 out_7 k_8 v_9 ρ82 (w64 (i_11 + 1))) ω83) ∧
  (pcall1 (.int .i64) PP F.spec_l1Bit #[.bool (decide (ξ75 ≥ v_9))] fun (ρ84 : Int) =>
  load1 (.int .i64) a77 ω15 fun (ξ85 : Int) =>
  sem1 .sl PP (Instr.buildSlice T_Sint 1 #[(0, vI (w64 (ξ85 + ρ84)))]) ω15 fun (ρ86 : Sl) ω87 =>
  sem1 .sl PP (Builtin.append_ #[T_Sint, T_Sint] T_Sint #[Sl.v p_10, Sl.v ρ86]) ω87 fun (ρ88 : Sl) ω89 =>
  k (emb10 list_0 last_1 n_2 out_7 k_8 v_9 ρ88 (w64 (i_11 + 1))) ω89)) ∧
  (pcall1 (.int .i64) PP F.spec_l1Bit #[.bool (decide (ξ75 ≥ v_9))] fun (ρ90 : Int) =>
  load1 .sl a16 ω15 fun (ξ91 : Sl) =>
  idxK 1 ξ91 i_11 fun (a92 : Addr) =>
  load1 (.int .i64) a92 ω15 fun (ξ93 : Int) =>
  sem1 .sl PP (Instr.buildSlice T_Sint 1 #[(0, vI (w64 (ξ93 + ρ90)))]) ω15 fun (ρ94 : Sl) ω95 =>
  sem1 .sl PP (Builtin.append_ #[T_Sint, T_Sint] T_Sint #[Sl.v p_10, Sl.v ρ94]) ω95 fun (ρ96 : Sl) ω97 =>
  k (emb10 list_0 last_1 n_2 out_7 k_8 v_9 ρ96 (w64 (i_11 + 1))) ω97))))
  else (
  Q (.exit 4) (x4 list_0 last_1 n_2 out_7 k_8 v_9 p_10) w)) := B10_eq std list_0 last_1 n_2 out_7 k_8 v_9 p_10 i_11 w k Q
theorem L10_rule (list_0 : Sl) (last_1 : Sl) (n_2 : Int) (out_7 : Sl) (k_8 : Int) (v_9 : Int) (p_10 : Sl) (i_11 : Int) (w : World) (Q : Exit → Env → World → Prop) (I : Sl → Int → World → Prop) (μ : Sl → Int → World → Nat) (h0 : I p_10 i_11 w)
    (h : ∀ (p_10 : Sl) (i_11 : Int) (w' : World), I p_10 i_11 w' → B10 std list_0 last_1 n_2 out_7 k_8 v_9 p_10 i_11 w' (fun e2 w2 => ∃ p_10_n i_11_n, e2 = emb10 list_0 last_1 n_2 out_7 k_8 v_9 p_10_n i_11_n ∧ I p_10_n i_11_n w2 ∧ μ p_10_n i_11_n w2 < μ p_10 i_11 w') Q) :
    L10 std list_0 last_1 n_2 out_7 k_8 v_9 p_10 i_11 w Q := by
  unfold L10
  refine LoopE.intro (σ := Sl × Int) (step := S10 std Q) (fun s => emb10 list_0 last_1 n_2 out_7 k_8 v_9 s.1 s.2) (fun s w => I s.1 s.2 w) (fun s w => μ s.1 s.2 w) (p_10, i_11) rfl h0 ?_
  intro s w' hI
  have h1 := h s.1 s.2 w' hI
  unfold B10 at h1
  simp only [Prod.exists]
  exact h1
theorem A10_4_eq (pr : Prims) (list_0 : Sl) (last_1 : Sl) (n_2 : Int) (out_7 : Sl) (k_8 : Int) (v_9 : Int) (p_10 : Sl) (w : World) (k : Env → World → Prop) (Q : Exit → Env → World → Prop) : (q12 pr k Q) (.exit 4) (x4 list_0 last_1 n_2 out_7 k_8 v_9 p_10) w = (
  pr.sem1 .sl PP (Instr.buildSlice T_Sint 1 #[(0, vI v_9)]) w fun (ρ98 : Sl) ω99 =>
  pr.sem1 .sl PP (Builtin.append_ #[T_Sint, T_Sint] T_Sint #[Sl.v p_10, Sl.v ρ98]) ω99 fun (ρ100 : Sl) ω101 =>
  pr.call1 .bool PP F.spec_l12Avoids #[Sl.v list_0, Sl.v ρ100] ω101 fun (ρ102 : Bool) ω103 =>
  bif ρ102 then (
  pr.sem1 .sl PP (Instr.buildSlice T_SSint 1 #[(0, Sl.v ρ100)]) ω103 fun (ρ104 : Sl) ω105 =>
  pr.sem1 .sl PP (Builtin.append_ #[T_SSint, T_SSint] T_SSint #[Sl.v out_7, Sl.v ρ104]) ω105 fun (ρ106 : Sl) ω107 =>
  k (emb6 list_0 last_1 n_2 ρ106 k_8 (w64 (v_9 + 1))) ω107)
  else (
  k (emb6 list_0 last_1 n_2 out_7 k_8 (w64 (v_9 + 1))) ω103)) := by kernel_rfl
theorem A10_4_s (list_0 : Sl) (last_1 : Sl) (n_2 : Int) (out_7 : Sl) (k_8 : Int) (v_9 : Int) (p_10 : Sl) (w : World) (k : Env → World → Prop) (Q : Exit → Env → World → Prop) : (q12 std k Q) (.exit 4) (x4 list_0 last_1 n_2 out_7 k_8 v_9 p_10) w = (
  sem1 .sl PP (Instr.buildSlice T_Sint 1 #[(0, vI v_9)]) w fun (ρ98 : Sl) ω99 =>
  sem1 .sl PP (Builtin.append_ #[T_Sint, T_Sint] T_Sint #[Sl.v p_10, Sl.v ρ98]) ω99 fun (ρ100 : Sl) ω101 =>
  call1 .bool PP F.spec_l12Avoids #[Sl.v list_0, Sl.v ρ100] ω101 fun (ρ102 : Bool) ω103 =>
  bif ρ102 then (
  sem1 .sl PP (Instr.buildSlice T_SSint 1 #[(0, Sl.v ρ100)]) ω103 fun (ρ104 : Sl) ω105 =>
  sem1 .sl PP (Builtin.append_ #[T_SSint, T_SSint] T_SSint #[Sl.v out_7, Sl.v ρ104]) ω105 fun (ρ106 : Sl) ω107 =>
  k (emb6 list_0 last_1 n_2 ρ106 k_8 (w64 (v_9 + 1))) ω107)
  else (
  k (emb6 list_0 last_1 n_2 out_7 k_8 (w64 (v_9 + 1))) ω103)) := A10_4_eq std list_0 last_1 n_2 out_7 k_8 v_9 p_10 w k Q
theorem B6_eq (pr : Prims) (list_0 : Sl) (last_1 : Sl) (n_2 : Int) (out_7 : Sl) (k_8 : Int) (v_9 : Int) (w : World) (k : Env → World → Prop) (Q : Exit → Env → World → Prop) : B6 pr list_0 last_1 n_2 out_7 k_8 v_9 w k Q = (
  bif decide (v_9 ≤ n_2) then (
  pr.sem1 .sl PP (Instr.buildSlice T_Sint 0 #[]) w fun (ρ9 : Sl) ω10 =>
  L10 pr list_0 last_1 n_2 out_7 k_8 v_9 ρ9 0 ω10 (q12 pr k Q))
  else (
  Q (.exit 2) (x2 list_0 last_1 n_2 out_7 k_8) w)) := by kernel_rfl
theorem B6_s (list_0 : Sl) (last_1 : Sl) (n_2 : Int) (out_7 : Sl) (k_8 : Int) (v_9 : Int) (w : World) (k : Env → World → Prop) (Q : Exit → Env → World → Prop) : B6 std list_0 last_1 n_2 out_7 k_8 v_9 w k Q = (
  bif decide (v_9 ≤ n_2) then (
  sem1 .sl PP (Instr.buildSlice T_Sint 0 #[]) w fun (ρ9 : Sl) ω10 =>
  L10 std list_0 last_1 n_2 out_7 k_8 v_9 ρ9 0 ω10 (q12 std k Q))
  else (
  Q (.exit 2) (x2 list_0 last_1 n_2 out_7 k_8) w)) := B6_eq std list_0 last_1 n_2 out_7 k_8 v_9 w k Q
theorem L6_rule (list_0 : Sl) (last_1 : Sl) (n_2 : Int) (out_7 : Sl) (k_8 : Int) (v_9 : Int) (w : World) (Q : Exit → Env → World → Prop) (I : Sl → Int → World → Prop) (μ : Sl → Int → World → Nat) (h0 : I out_7 v_9 w)
    (h : ∀ (out_7 : Sl) (v_9 : Int) (w' : World), I out_7 v_9 w' → B6 std list_0 last_1 n_2 out_7 k_8 v_9 w' (fun e2 w2 => ∃ out_7_n v_9_n, e2 = emb6 list_0 last_1 n_2 out_7_n k_8 v_9_n ∧ I out_7_n v_9_n w2 ∧ μ out_7_n v_9_n w2 < μ out_7 v_9 w') Q) :
    L6 std list_0 last_1 n_2 out_7 k_8 v_9 w Q := by
  unfold L6
  refine LoopE.intro (σ := Sl × Int) (step := S6 std Q) (fun s => emb6 list_0 last_1 n_2 s.1 k_8 s.2) (fun s w => I s.1 s.2 w) (fun s w => μ s.1 s.2 w) (out_7, v_9) rfl h0 ?_
  intro s w' hI
  have h1 := h s.1 s.2 w' hI
  unfold B6 at h1
  simp only [Prod.exists]
  exact h1
theorem A6_2_eq (pr : Prims) (list_0 : Sl) (last_1 : Sl) (n_2 : Int) (out_7 : Sl) (k_8 : Int) (w : World) (k : Env → World → Prop) (Q : Exit → Env → World → Prop) : (q6 pr k Q) (.exit 2) (x2 list_0 last_1 n_2 out_7 k_8) w = (
  k (emb3 list_0 last_1 n_2 out_7 (w64 (k_8 + 1))) w) := by kernel_rfl
theorem A6_2_s (list_0 : Sl) (last_1 : Sl) (n_2 : Int) (out_7 : Sl) (k_8 : Int) (w : World) (k : Env → World → Prop) (Q : Exit → Env → World → Prop) : (q6 std k Q) (.exit 2) (x2 list_0 last_1 n_2 out_7 k_8) w = (
  k (emb3 list_0 last_1 n_2 out_7 (w64 (k_8 + 1))) w) := A6_2_eq std list_0 last_1 n_2 out_7 k_8 w k Q
theorem A6_4_eq (pr : Prims) (list_0 : Sl) (last_1 : Sl) (n_2 : Int) (out_7 : Sl) (k_8 : Int) (v_9 : Int) (p_10 : Sl) (w : World) (k : Env → World → Prop) (Q : Exit → Env → World → Prop) : (q6 pr k Q) (.exit 4) (x4 list_0 last_1 n_2 out_7 k_8 v_9 p_10) w = (
  Q (.exit 4) (x4 list_0 last_1 n_2 out_7 k_8 v_9 p_10) w) := by kernel_rfl
theorem A6_4_s (list_0 : Sl) (last_1 : Sl) (n_2 : Int) (out_7 : Sl) (k_8 : Int) (v_9 : Int) (p_10 : Sl) (w : World) (k : Env → World → Prop) (Q : Exit → Env → World → Prop) : (q6 std k Q) (.exit 4) (x4 list_0 last_1 n_2 out_7 k_8 v_9 p_10) w = (
  Q (.exit 4) (x4 list_0 last_1 n_2 out_7 k_8 v_9 p_10) w) := A6_4_eq std list_0 last_1 n_2 out_7 k_8 v_9 p_10 w k Q
theorem B3_eq (pr : Prims) (list_0 : Sl) (last_1 : Sl) (n_2 : Int) (out_7 : Sl) (k_8 : Int) (w : World) (k : Env → World → Prop) (Q : Exit → Env → World → Prop) : B3 pr list_0 last_1 n_2 out_7 k_8 w k Q = (
  bif decide (k_8 < (last_1.n : Int)) then (
  L6 pr list_0 last_1 n_2 out_7 k_8 1 w (q6 pr k Q))
  else (
  Q (.exit 0) (x0 out_7) w)) := by kernel_rfl
theorem B3_s (list_0 : Sl) (last_1 : Sl) (n_2 : Int) (out_7 : Sl) (k_8 : Int) (w : World) (k : Env → World → Prop) (Q : Exit → Env → World → Prop) : B3 std list_0 last_1 n_2 out_7 k_8 w k Q = (
  bif decide (k_8 < (last_1.n : Int)) then (
  L6 std list_0 last_1 n_2 out_7 k_8 1 w (q6 std k Q))
  else (
  Q (.exit 0) (x0 out_7) w)) := B3_eq std list_0 last_1 n_2 out_7 k_8 w k Q
theorem L3_rule (list_0 : Sl) (last_1 : Sl) (n_2 : Int) (out_7 : Sl) (k_8 : Int) (w : World) (Q : Exit → Env → World → Prop) (I : Sl → Int → World → Prop) (μ : Sl → Int → World → Nat) (h0 : I out_7 k_8 w)
    (h : ∀ (out_7 : Sl) (k_8 : Int) (w' : World), I out_7 k_8 w' → B3 std list_0 last_1 n_2 out_7 k_8 w' (fun e2 w2 => ∃ out_7_n k_8_n, e2 = emb3 list_0 last_1 n_2 out_7_n k_8_n ∧ I out_7_n k_8_n w2 ∧ μ out_7_n k_8_n w2 < μ out_7 k_8 w') Q) :
    L3 std list_0 last_1 n_2 out_7 k_8 w Q := by
  unfold L3
  refine LoopE.intro (σ := Sl × Int) (step := S3 std Q) (fun s => emb3 list_0 last_1 n_2 s.1 s.2) (fun s w => I s.1 s.2 w) (fun s w => μ s.1 s.2 w) (out_7, k_8) rfl h0 ?_
  intro s w' hI
  have h1 := h s.1 s.2 w' hI
  unfold B3 at h1
  simp only [Prod.exists]
  exact h1
theorem A3_0_eq (pr : Prims) (out_7 : Sl) (w : World) (R : Ending → World → Prop) : (q3 pr R) (.exit 0) (x0 out_7) w = (
  R (.returned (Sl.v out_7)) w) := by kernel_rfl
theorem A3_0_s (out_7 : Sl) (w : World) (R : Ending → World → Prop) : (q3 std R) (.exit 0) (x0 out_7) w = (
  R (.returned (Sl.v out_7)) w) := A3_0_eq std out_7 w R
theorem E_eq (pr : Prims) (list_0 : Sl) (last_1 : Sl) (n_2 : Int) (w : World) (R : Ending → World → Prop) : E pr list_0 last_1 n_2 w R = (
  pr.sem1 .sl PP (Instr.buildSlice T_SSint 0 #[]) w fun (ρ0 : Sl) ω1 =>
  L3 pr list_0 last_1 n_2 ρ0 0 ω1 (q3 pr R)) := by kernel_rfl
theorem E_s (list_0 : Sl) (last_1 : Sl) (n_2 : Int) (w : World) (R : Ending → World → Prop) : E std list_0 last_1 n_2 w R = (
  sem1 .sl PP (Instr.buildSlice T_SSint 0 #[]) w fun (ρ0 : Sl) ω1 =>
  L3 std list_0 last_1 n_2 ρ0 0 ω1 (q3 std R)) := E_eq std list_0 last_1 n_2 w R
theorem drawsOk : drawsOk PP cfg okD (codeOf Try.f70) = true := by kernel_rfl
theorem calls (list_0 : Sl) (last_1 : Sl) (n_2 : Int) {w : World} {R : Ending → World → Prop} (h : E std list_0 last_1 n_2 w R) : Calls PP F.spec_l12Next #[Sl.v list_0, Sl.v last_1, vI n_2] w R :=
  calls_of noCount mixed drawOk Try.func70 rfl (c := cfg) (args := [Sl.v list_0, Sl.v last_1, vI n_2]) rfl (Nat.le_of_ble_eq_true (by kernel_rfl)) drawsOk h
end spec_l12Next

end Go.Proofs.Yteplokddaebbeaa

/- ClassCounts: both texts. -/
namespace Go.Proofs.Yteplokddaebbeaa
open Go Go.RowKit
set_option maxRecDepth 100000

def GV (LL : List (List Int)) (n : Nat) (q : List Int) : List (List Int) := ((idn n).map (insV q)).filter (avoidsV LL)
theorem nextV_eq (LL : List (List Int)) (n : Nat) (l : List (List Int)) : nextV LL n l = l.flatMap (GV LL n) := rfl
theorem GV_len (LL : List (List Int)) (n : Nat) (q : List Int) : (GV LL n q).length ≤ n := by
  have := List.length_filter_le (avoidsV LL) ((idn n).map (insV q))
  rw [List.length_map, idn_length] at this
  exact this
theorem GV_succ (LL : List (List Int)) (v : Nat) (q : List Int) : GV LL (v + 1) q = GV LL v q ++ (if avoidsV LL (insV q ((v : Int) + 1)) = true then [insV q ((v : Int) + 1)] else []) := by
  unfold GV
  rw [idn_succ, List.map_append, List.filter_append]
  congr 1
  simp only [List.map_cons, List.map_nil, List.filter_cons, List.filter_nil]
theorem c_l12Next {w : World} {l last : Sl} {LL LAST : List (List Int)} (hl : RowSS w l LL) (hB : BasisOk LL) (hlast : RowSS w last LAST) (k : Nat) (hk : k ≤ 5) (hlen : ∀ p ∈ LAST, p.length = k)
    (hbd : ∀ p ∈ LAST, ∀ x ∈ p, 0 ≤ x ∧ x ≤ 8) (hc : LAST.length ≤ 46656) :
    Calls PP F.spec_l12Next #[l.v, last.v, vI (k + 1 : Nat)] w fun e w' => ∃ s : Sl, e = .returned s.v ∧ OwnSS w' w.heap.size s (nextV LL (k + 1) LAST) ∧ Below w.heap.size w w' := by
  have hlastn := hlast.n
  have hl8 := hB.1
  refine spec_l12Next.calls l last (k + 1 : Nat) ?_
  rw [spec_l12Next.E_s]
  refine lit0 oneSint (B := w.heap.size) (Nat.le_refl _) ?_
  intro o w1 ho hg1 _
  have hb1 := below_of_grow hg1
  refine spec_l12Next.L3_rule _ _ _ _ _ _ _ (I := fun o i w' => 0 ≤ i ∧ i ≤ LAST.length ∧ Below w.heap.size w w' ∧ OwnSS w' w.heap.size o ((LAST.take i.toNat).flatMap (GV LL (k + 1)))) (μ := fun _ i _ => (LAST.length - i).toNat)
    ⟨by omega, by omega, hb1, OwnSS.nil ho⟩ ?_
  rintro o i w' ⟨hi0, hi, hb, ho⟩
  rw [spec_l12Next.B3_s, hlastn]
  refine bif_dec (fun h3 => ?_) (fun h3 => ?_)
  · have hlt : i.toNat < LAST.length := by omega
    have hql := hlen _ (List.getElem_mem hlt)
    have hqb := hbd _ (List.getElem_mem hlt)
    have hsn : (LAST.take (i.toNat + 1)).flatMap (GV LL (k + 1)) = (LAST.take i.toNat).flatMap (GV LL (k + 1)) ++ GV LL (k + 1) LAST[i.toNat] := by
      rw [List.take_succ_eq_append_getElem hlt, flat_snoc']
    have hfl : ((LAST.take i.toNat).flatMap (GV LL (k + 1))).length ≤ 46656 * 6 := by
      have h1 := length_flatMap_le (LAST.take i.toNat) (GV LL (k + 1)) 6 (fun q _ => Nat.le_trans (GV_len LL (k + 1) q) (by omega))
      rw [List.length_take] at h1
      omega
    have hget : LAST.getD i.toNat [] = LAST[i.toNat] := getD_SS hlt
    generalize hq : LAST[i.toNat] = q at *
    have ei : (i + 1).toNat = i.toNat + 1 := by omega
    refine spec_l12Next.L6_rule _ _ _ _ _ _ _ _ (I := fun o v w2 => 1 ≤ v ∧ v ≤ (k + 2 : Nat) ∧ Below w.heap.size w w2 ∧ OwnSS w2 w.heap.size o ((LAST.take i.toNat).flatMap (GV LL (k + 1)) ++ GV LL (v - 1).toNat q)) (μ := fun _ v _ => ((k + 2 : Nat) - v).toNat)
      ⟨by omega, by omega, hb, by simpa [GV, idn] using ho⟩ ?_
    rintro o v w2 ⟨hv1, hv, hb2, ho⟩
    rw [spec_l12Next.B6_s]
    refine bif_dec (fun h5 => ?_) (fun h5 => ?_)
    · refine lit0 oneInt (B := w2.heap.size) (Nat.le_refl _) ?_
      intro p w3 hp hg3 _
      have hb3 := below_of_grow hg3
      refine spec_l12Next.L10_rule _ _ _ _ _ _ _ _ _ _ (I := fun p j w4 => 0 ≤ j ∧ j ≤ k ∧ Below w2.heap.size w2 w4 ∧ OwnI w4 w2.heap.size p ((q.take j.toNat).map (bump v))) (μ := fun _ j _ => (k - j).toNat)
        ⟨by omega, by omega, hb3, hp⟩ ?_
      rintro p j w4 ⟨hj0, hj, hb4, hp⟩
      have hbw4 := hb2.trans (hb4.mono hb2.size)
      rw [spec_l12Next.B10_s]
      refine RowSS.get (hlast.grow hbw4) hi0 (by omega) fun r hr => ?_
      rw [hget] at hr
      have hrn : r.n = k := by have := hr.n; simpa [hql] using this
      simp only [hrn]
      refine bif_dec (fun h7 => ?_) (fun h7 => ?_)
      · have hlt2 : j.toNat < q.length := by omega
        refine drew_intro fun w5 hd => ?_
        have hb5 := hb4.trans ((hd.below _).mono hb4.size)
        have hbw5 := hb2.trans (hb5.mono hb2.size)
        have hp5 := hp.heap hd.heap'
        refine RowSS.place (hlast.grow hbw5) hi0 (by omega) fun a16 r16 h16 hr16 => ?_
        refine RowSS.place (hlast.grow hbw5) hi0 (by omega) fun a17 r17 h17 hr17 => ?_
        rw [hget] at hr16 hr17
        have hx := hqb _ (List.getElem_mem hlt2)
        have hgx : q.getD j.toNat 0 = q[j.toNat] := getD_lt hlt2
        have hbx : w64 (q[j.toNat] + (if decide (q[j.toNat] ≥ v) = true then 1 else 0)) = bump v q[j.toNat] := by
          unfold bump
          by_cases h : q[j.toNat] ≥ v
          · rw [if_pos (by simpa using h), if_pos h, w64_succ (by omega) (by omega)]
          · rw [if_neg (by simpa using h), if_neg h, w64_id (by omega) (by omega)]; omega
        have h0j : j < (q.length : Int) := by omega
        have fin : ∀ (t : Int), t = (if decide (q[j.toNat] ≥ v) = true then 1 else 0) → sem1 .sl PP (Instr.buildSlice T_Sint 1 #[(0, vI (w64 (q[j.toNat] + t)))]) w5 fun (ρ25 : Sl) ω26 =>
            sem1 .sl PP (Builtin.append_ #[T_Sint, T_Sint] T_Sint #[Sl.v p, Sl.v ρ25]) ω26 fun (ρ27 : Sl) ω28 =>
            (fun e2 w2' => ∃ p_10_n i_11_n, e2 = spec_l12Next.emb10 l last (k + 1 : Nat) o i v p_10_n i_11_n ∧ (0 ≤ i_11_n ∧ i_11_n ≤ k ∧ Below w2.heap.size w2 w2' ∧ OwnI w2' w2.heap.size p_10_n ((q.take i_11_n.toNat).map (bump v))) ∧ (k - i_11_n).toNat < (k - j).toNat) (spec_l12Next.emb10 l last (k + 1 : Nat) o i v ρ27 (w64 (j + 1))) ω28 := by
          rintro t rfl
          rw [hbx]
          refine append_int hp5 hb5.size (by rw [List.length_map, List.length_take]; omega) ?_
          intro p' w6 hp6 hg6 _
          refine ⟨p', j + 1, by rw [w64_succ hj0 (by omega)], ⟨by omega, by omega, hb5.grown hg6 hb5.size (fun g hg => (hp5.lt g hg).1), ?_⟩, by omega⟩
          rw [show (j + 1).toNat = j.toNat + 1 by omega, List.take_succ_eq_append_getElem hlt2, List.map_append]
          exact hp6
        clear hbx
        repeat' first
          | exact fin _ rfl
          | refine And.intro ?_ ?_
          | refine load_sl h16 ?_
          | refine load_sl h17 ?_
          | (refine RowI.place hr16 hj0 h0j fun a ha => ?_; rw [hgx] at ha)
          | (refine RowI.place hr17 hj0 h0j fun a ha => ?_; rw [hgx] at ha)
          | refine load_int (by assumption) ?_
          | refine Pure.pcall1 (s := .int .i64) (c_l1Bit _) ?_
      · rw [spec_l12Next.A10_4_s]
        have ej : j.toNat = q.length := by omega
        rw [ej, List.take_length] at hp
        refine append_int hp hb4.size (by rw [List.length_map]; omega) ?_
        intro p' w5 hp5 hg5 _
        have hp5 : OwnI w5 w2.heap.size p' (insV q v) := hp5
        have hb5 := hb4.grown hg5 hb4.size (fun g hg => (hp.lt g hg).1)
        have hbw5 := hb2.trans (hb5.mono hb2.size)
        have hil : (insV q v).length ≤ 8 := by rw [insV_length]; omega
        refine (c_l12Avoids (hl.grow hbw5) hp5.row hil (by omega) hB.len).mono ?_
        rintro e w6 ⟨rfl, hb6⟩
        refine ⟨_, rfl, ?_⟩
        have hb26 := hb5.trans (hb6.mono hb5.size)
        have hbw6 := hb2.trans (hb26.mono hb2.size)
        have hp6 := hp5.grow hb6
        obtain ⟨m, rfl⟩ : ∃ m : Nat, v = (m : Int) + 1 := ⟨(v - 1).toNat, by omega⟩
        have em : ((m : Int) + 1 - 1).toNat = m := by omega
        have em2 : ((m : Int) + 1 + 1 - 1).toNat = m + 1 := by omega
        have hGl := GV_len LL m q
        rw [em] at ho
        refine bif_intro (fun h8 => ?_) (fun h8 => ?_)
        · refine append_new ho hb26 hb2.size hp6 (by rw [List.length_append]; omega) ?_
          intro o' w7 ho7 hg7 _
          refine ⟨o', (m : Int) + 1 + 1, by rw [w64_succ (by omega) (by omega)], ⟨by omega, by omega, hbw6.grown hg7 hbw6.size (fun g hg => (ho.lt g hg).1), ?_⟩, by omega⟩
          rw [em2, GV_succ, if_pos h8, ← List.append_assoc]
          exact ho7
        · refine ⟨o, (m : Int) + 1 + 1, by rw [w64_succ (by omega) (by omega)], ⟨by omega, by omega, hbw6, ?_⟩, by omega⟩
          rw [em2, GV_succ, if_neg (by simp [h8]), List.append_nil]
          exact ho.grow hb26
    · rw [spec_l12Next.A6_2_s]
      refine ⟨o, i + 1, by rw [w64_succ hi0 (by omega)], ⟨by omega, by omega, hb2, ?_⟩, by omega⟩
      rw [ei, hsn]
      rw [show (v - 1).toNat = k + 1 by omega] at ho
      exact ho
  · rw [spec_l12Next.A3_0_s]
    rw [show i.toNat = LAST.length by omega, List.take_length] at ho
    exact ⟨o, rfl, by rw [nextV_eq]; exact ho, hb⟩
/-! ### ClassCounts -/
def cls (LL : List (List Int)) (k : Nat) : Int := ((classV LL k).length : Int)
def clsS (LL : List (List Int)) (m : Nat) : List Int := (List.range m).map (cls LL)
theorem clsS_succ (LL : List (List Int)) (m : Nat) : clsS LL (m + 1) = clsS LL m ++ [cls LL m] := by simp [clsS, List.range_succ]
theorem clsS_len (LL : List (List Int)) (m : Nat) : (clsS LL m).length = m := by simp [clsS]
open Classical in
noncomputable def ClassCountsV (LL : List (List Int)) (n : Int) : List Int := if CntOk LL n then clsS LL (n.toNat + 1) else []
theorem ClassCountsV_len (LL : List (List Int)) (n : Int) : (ClassCountsV LL n).length ≤ 7 := by
  unfold ClassCountsV
  split
  · rename_i h
    have := h.2
    rw [clsS_len]; omega
  · simp
def CntRows (LL : List (List Int)) (w : World) (B : Nat) (s : Sl) (m : Nat) : Prop := ∃ rs : List Sl, Own w B T_SSint s (rs.map Sl.v) ∧ rs.map (fun r => (r.n : Int)) = clsS LL m
theorem CntRows.n {LL w B s m} (h : CntRows LL w B s m) : s.n = m := by
  obtain ⟨rs, h1, h2⟩ := h
  have h3 := congrArg List.length h2
  rw [List.length_map, clsS_len] at h3
  have := h1.row.n
  simpa [h3] using this
theorem c_l12Class {w : World} {l : Sl} {LL : List (List Int)} (hl : RowSS w l LL) (hB : BasisOk LL) (n : Nat) (hn : n ≤ 6) :
    Calls PP F.spec_l12Class #[l.v, vI n] w fun e w' => ∃ s : Sl, e = .returned s.v ∧ CntRows LL w' w.heap.size s (n + 1) ∧ Below w.heap.size w w' := by
  have h0 := avoids_nil hB
  refine spec_l12Class.calls l n ?_
  rw [spec_l12Class.E_s]
  refine lit0 oneInt (B := w.heap.size) (Nat.le_refl _) ?_
  intro e0 w1 he0 hg1 _
  have hb1 := below_of_grow hg1
  refine lit1 oneSint (B := w.heap.size) hb1.size (One.sl e0) ?_
  intro lv w2 hlv hg2 _
  have hb2 := hb1.grown hg2 hb1.size (by simp)
  have hlv2 : OwnSS w2 w.heap.size lv [[]] := OwnSS.one_nil he0 hlv hg2
  refine lit1 oneSSint (B := w.heap.size) hb2.size (One.sl lv) ?_
  intro o w3 ho hg3 _
  have hb3 := hb2.grown hg3 hb2.size (by simp)
  have hlv3 : RowSS w3 lv (l12V LL 0) := (hlv2.grow (below_of_grow hg3)).row
  have hc0 : ∀ k, k ≤ 6 → (l12V LL k).length ≤ 46656 := fun k hk => by rw [l12V_len h0]; exact classV_len hk
  refine spec_l12Class.L4_rule _ _ _ _ _ _ _ (I := fun lv o i w' => 1 ≤ i ∧ i ≤ (n + 1 : Nat) ∧ Below w.heap.size w w' ∧ RowSS w' lv (l12V LL (i - 1).toNat) ∧ CntRows LL w' w.heap.size o i.toNat) (μ := fun _ _ i _ => ((n + 1 : Nat) - i).toNat)
    ⟨by omega, by omega, hb3, hlv3, [lv], ho, by
      have h5 := hlv3.n
      have h6 := l12V_len h0 0
      simp [clsS, cls, h5, h6]⟩ ?_
  rintro lv o i w' ⟨hi1, hi, hb, hlv, hout⟩
  rw [spec_l12Class.B4_s]
  refine bif_dec (fun h3 => ?_) (fun h3 => ?_)
  · obtain ⟨m, rfl⟩ : ∃ m : Nat, i = (m + 1 : Nat) := ⟨(i - 1).toNat, by omega⟩
    have em : (((m + 1 : Nat) : Int) - 1).toNat = m := by omega
    have em2 : (((m + 1 : Nat) : Int) + 1 - 1).toNat = m + 1 := by omega
    have em3 : (((m + 1 : Nat) : Int) + 1).toNat = m + 1 + 1 := by omega
    rw [em] at hlv
    rw [Int.toNat_natCast] at hout
    refine (c_l12Next (hl.grow hb) hB hlv m (by omega) (fun p hp => l12V_mem_len h0 hp) (fun p hp x hx => by
      have := mem_idn.1 (((mem_l12V h0).1 hp).1.mem_iff.1 hx); omega) (hc0 m (by omega))).mono ?_
    rintro e w4 ⟨x, rfl, hx, hb4⟩
    refine ⟨x, rfl, ?_⟩
    have hbw4 := hb.trans (hb4.mono hb.size)
    obtain ⟨rs, ho1, ho2⟩ := hout
    have ho4 := ho1.grow hb4
    refine append_one oneSSint ho4 hbw4.size (One.sl x) (by
      have := congrArg List.length ho2
      rw [List.length_map, clsS_len] at this
      rw [List.length_map]; omega) ?_
    intro o' w5 ho5 hg5 _
    obtain ⟨xs, hx⟩ := hx
    have hx5 := hx.keepsLt (keeps_grown hg5) (fun g hg => (ho1.lt g hg).2)
    refine ⟨x, o', ((m + 1 : Nat) : Int) + 1, by rw [w64_succ (by omega) (by omega)], ⟨by omega, by omega, hbw4.grown hg5 hbw4.size (fun g hg => (ho4.lt g hg).1), ?_, ?_⟩, by omega⟩
    · rw [em2]; exact hx5.row
    · refine ⟨rs ++ [x], by simpa using ho5, ?_⟩
      have hxn := hx5.n
      have h6 := l12V_len h0 (m + 1)
      rw [l12V] at h6
      rw [em3, clsS_succ, List.map_append, ho2, cls, ← h6]
      simp [hxn]
  · rw [spec_l12Class.A4_0_s]
    rw [show i.toNat = n + 1 by omega] at hout
    exact ⟨o, rfl, hout, hb⟩
theorem c_specClassCounts {w : World} {l : Sl} {LL : List (List Int)} (hl : RowSS w l LL) (hL : LL.length < 2^38) (ht : tot LL < 2^37) (n : Int) :
    Calls PP F.spec_ClassCounts #[l.v, vI n] w fun e w' => ∃ s : Sl, e = .returned s.v ∧ OwnI w' w.heap.size s (ClassCountsV LL n) ∧ Below w.heap.size w w' := by
  refine spec_ClassCounts.calls l n ?_
  rw [spec_ClassCounts.E_s]
  refine lit0 oneInt (B := w.heap.size) (Nat.le_refl _) ?_
  intro o w1 ho hg1 _
  have hb1 := below_of_grow hg1
  refine (c_specIsBasis (hl.grow hb1) hL ht).mono ?_
  rintro e w2 ⟨rfl, hb12⟩
  refine ⟨_, rfl, ?_⟩
  have hb2 := hb1.trans (hb12.mono hb1.size)
  have ho2 : OwnI w2 w.heap.size o [] := Own.grow ho hb12
  refine bif_intro (fun h => ?_) (fun h => ?_)
  · have h : ¬ BasisOk LL := by simpa [IsBasisV] using h
    exact ⟨o, rfl, by rw [ClassCountsV, if_neg (fun hh => h hh.1)]; exact ho2, hb2⟩
  have hB : BasisOk LL := by simpa [IsBasisV] using h
  refine Pure.pcall1 (s := .bool) (c_l1In n 0 6) ?_
  refine bif_intro (fun h => ?_) (fun h => ?_)
  · have h : ¬ (0 ≤ n ∧ n ≤ 6) := by simp at h; omega
    exact ⟨o, rfl, by rw [ClassCountsV, if_neg (fun hh => h hh.2)]; exact ho2, hb2⟩
  have hn : 0 ≤ n ∧ n ≤ 6 := by simpa using h
  have hV : ClassCountsV LL n = clsS LL (n.toNat + 1) := by rw [ClassCountsV, if_pos ⟨hB, hn⟩]
  rw [hV]
  obtain ⟨n, rfl⟩ : ∃ m : Nat, n = m := ⟨n.toNat, by omega⟩
  rw [Int.toNat_natCast]
  refine (c_l12Class (hl.grow hb2) hB n (by omega)).mono ?_
  rintro e w3 ⟨t, rfl, hto, hb23⟩
  refine ⟨t, rfl, ?_⟩
  have hb3 := hb2.trans (hb23.mono hb2.size)
  have htn := hto.n
  obtain ⟨rs, ht1, ht2⟩ := hto
  have hrl : rs.length = n + 1 := by
    have := congrArg List.length ht2
    rw [List.length_map, clsS_len] at this
    exact this
  refine spec_ClassCounts.L6_rule _ _ _ _ _ (I := fun o i w' => 0 ≤ i ∧ i ≤ (n + 1 : Nat) ∧ Below w.heap.size w w' ∧ Own w' w2.heap.size T_SSint t (rs.map Sl.v) ∧ OwnI w' w.heap.size o (clsS LL i.toNat)) (μ := fun _ i _ => ((n + 1 : Nat) - i).toNat)
    ⟨by omega, by omega, hb3, ht1, by have := Own.grow ho2 hb23; simpa [OwnI, clsS] using this⟩ ?_
  rintro o i w' ⟨hi0, hi, hb, htw, how⟩
  rw [spec_ClassCounts.B6_s, htn]
  refine bif_dec (fun h3 => ?_) (fun h3 => ?_)
  · have hlt : i.toNat < rs.length := by omega
    refine Row.get (sh := .sl) (r := rs[i.toNat]) htw.row hi0 (by rw [List.getElem?_map, List.getElem?_eq_getElem hlt]; rfl) ?_
    have hxn : (rs[i.toNat].n : Int) = cls LL i.toNat := by
      have h5 : (rs.map (fun r => (r.n : Int)))[i.toNat]? = (clsS LL (n + 1))[i.toNat]? := by rw [ht2]
      rw [List.getElem?_map, List.getElem?_eq_getElem hlt, clsS, List.getElem?_map, List.getElem?_range (by omega)] at h5
      simpa using h5
    simp only [hxn]
    refine append_int how hb.size (by rw [clsS_len]; omega) ?_
    intro o' w4 ho4 hg4 _
    refine ⟨o', i + 1, by rw [w64_succ hi0 (by omega)], ⟨by omega, by omega, hb.grown hg4 hb.size (fun g hg => (how.lt g hg).1), ?_, ?_⟩, by omega⟩
    · exact htw.kept hg4 fun g e1 e2 => (htw.apt how ne_SS_int) g e1 e2
    · rw [show (i + 1).toNat = i.toNat + 1 by omega, clsS_succ]
      exact ho4
  · rw [spec_ClassCounts.A6_0_s]
    rw [show i.toNat = n + 1 by omega] at how
    exact ⟨o, rfl, how, hb⟩
theorem Own.some {w B e s vs} (h : Own w B e s vs) (hne : vs ≠ []) : s.a.isNone = false := by
  have hn := h.n
  have hnc := h.nc
  have h0 : 0 < vs.length := List.length_pos_iff.2 hne
  rcases h.at_ with hc | ⟨g, cur, ha, _⟩
  · omega
  · rw [ha]; rfl
end Go.Proofs.Yteplokddaebbeaa

/- What each function does, step by step, written by a program (Gen.lean); each equation is checked by the kernel. -/
namespace Go.Proofs.Yteplokddaebbeaa
open Go
set_option linter.unusedVariables false
set_option maxRecDepth 100000
namespace impl_pattern
@[reducible] def cfg : Cfg := ⟨34, [(7, [0, 3, 5, 6, 10, 11, 12, 16, 17, 18]), (3, [0, 3, 10, 11, 12])], [(3, [0, 3, 5, 6, 10, 11, 12, 16, 17, 18]), (2, [0, 3, 6, 10, 11, 12]), (1, [0, 3, 10, 11, 12]), (0, [3])], [], [2], [], [17, 15, 81, 40, 36, 66, 59, 92, 87], [76, 85, 43, 4, 32, 37, 31]⟩
def q2 (pr : Prims) (R : Ending → World → Prop) : Exit → Env → World → Prop := fun ex e w => normQ ex (fun e w => contE pr cfg (sub (codeOf Try.f60) [1, 1, 1]) (fun e w => wpC pr PP cfg (DD pr) (sub (codeOf Try.f60) [1, 1, 1]) (retQ Try.f60.results.toList R) e w) e w) (retQ Try.f60.results.toList R) e w
def q3 (pr : Prims) (R : Ending → World → Prop) : Exit → Env → World → Prop := fun ex e w => blockQ ex 0 (q2 pr R) e w
def q4 (pr : Prims) (k : Env → World → Prop) (Q : Exit → Env → World → Prop) : Exit → Env → World → Prop := fun ex e w => normQ ex (fun e w => contE pr cfg (sub (codeOf Try.f60) [1, 1, 0, 1, 0, 0, 1, 1, 1]) (fun e w => wpC pr PP cfg (DD pr) (sub (codeOf Try.f60) [1, 1, 0, 1, 0, 0, 1, 1, 1]) (fun ex e w => normQ ex (fun e' w' => k (Env.restr e' (lookN cfg.loops (keyOf (sub (codeOf Try.f60) [1, 1, 0, 1, 0, 0])))) w') Q e w) e w) e w) (fun ex e w => normQ ex (fun e' w' => k (Env.restr e' (lookN cfg.loops (keyOf (sub (codeOf Try.f60) [1, 1, 0, 1, 0, 0])))) w') Q e w) e w
def q5 (pr : Prims) (k : Env → World → Prop) (Q : Exit → Env → World → Prop) : Exit → Env → World → Prop := fun ex e w => blockQ ex 1 (q4 pr k Q) e w
def q8 (pr : Prims) (k : Env → World → Prop) (Q : Exit → Env → World → Prop) : Exit → Env → World → Prop := fun ex e w => normQ ex (fun e w => contE pr cfg (sub (codeOf Try.f60) [1, 1, 0, 1, 0, 0, 1, 1, 0, 0, 1, 1, 1]) (fun e w => wpC pr PP cfg (DD pr) (sub (codeOf Try.f60) [1, 1, 0, 1, 0, 0, 1, 1, 0, 0, 1, 1, 1]) (q5 pr k Q) e w) e w) (q5 pr k Q) e w
def q9 (pr : Prims) (k : Env → World → Prop) (Q : Exit → Env → World → Prop) : Exit → Env → World → Prop := fun ex e w => blockQ ex 2 (q8 pr k Q) e w
def emb3 (list_0 : Sl) (out_3 : Sl) (t10 : Sl) (t11 : Int) (t12 : Int) : Env := [(0, Sl.v list_0), (3, Sl.v out_3), (10, Sl.v t10), (11, vI t11), (12, vI t12)]
def emb7 (list_0 : Sl) (out_3 : Sl) (x_5 : Int) (v_6 : Int) (t10 : Sl) (t11 : Int) (t12 : Int) (t16 : Sl) (t17 : Int) (t18 : Int) : Env := [(0, Sl.v list_0), (3, Sl.v out_3), (5, vI x_5), (6, vI v_6), (10, Sl.v t10), (11, vI t11), (12, vI t12), (16, Sl.v t16), (17, vI t17), (18, vI t18)]
def x2 (list_0 : Sl) (out_3 : Sl) (v_6 : Int) (t10 : Sl) (t11 : Int) (t12 : Int) : Env := [(0, Sl.v list_0), (3, Sl.v out_3), (6, vI v_6), (10, Sl.v t10), (11, vI t11), (12, vI t12)]
def x0 (out_3 : Sl) : Env := [(3, Sl.v out_3)]
def S7 (pr : Prims) (Q : Exit → Env → World → Prop) : (Env → World → Prop) → Env → World → Prop := fun k e w => wpC pr PP cfg (DD pr) (sub (codeOf Try.f60) [1, 1, 0, 1, 0, 0, 1, 1, 0, 0, 1, 1, 0, 1, 0, 0]) (fun ex e w => normQ ex (fun e' w' => k (Env.restr e' (lookN cfg.loops (keyOf (sub (codeOf Try.f60) [1, 1, 0, 1, 0, 0, 1, 1, 0, 0, 1, 1, 0, 1, 0, 0])))) w') Q e w) e w
def S3 (pr : Prims) (Q : Exit → Env → World → Prop) : (Env → World → Prop) → Env → World → Prop := fun k e w => wpC pr PP cfg (DD pr) (sub (codeOf Try.f60) [1, 1, 0, 1, 0, 0]) (fun ex e w => normQ ex (fun e' w' => k (Env.restr e' (lookN cfg.loops (keyOf (sub (codeOf Try.f60) [1, 1, 0, 1, 0, 0])))) w') Q e w) e w
def B7 (pr : Prims) (list_0 : Sl) (out_3 : Sl) (x_5 : Int) (v_6 : Int) (t10 : Sl) (t11 : Int) (t12 : Int) (t16 : Sl) (t17 : Int) (t18 : Int) (w : World) (k : Env → World → Prop) (Q : Exit → Env → World → Prop) : Prop :=
  S7 pr Q k (emb7 list_0 out_3 x_5 v_6 t10 t11 t12 t16 t17 t18) w
def L7 (pr : Prims) (list_0 : Sl) (out_3 : Sl) (x_5 : Int) (v_6 : Int) (t10 : Sl) (t11 : Int) (t12 : Int) (t16 : Sl) (t17 : Int) (t18 : Int) (w : World) (Q : Exit → Env → World → Prop) : Prop :=
  pr.loop (S7 pr Q) (emb7 list_0 out_3 x_5 v_6 t10 t11 t12 t16 t17 t18) w
def B3 (pr : Prims) (list_0 : Sl) (out_3 : Sl) (t10 : Sl) (t11 : Int) (t12 : Int) (w : World) (k : Env → World → Prop) (Q : Exit → Env → World → Prop) : Prop :=
  S3 pr Q k (emb3 list_0 out_3 t10 t11 t12) w
def L3 (pr : Prims) (list_0 : Sl) (out_3 : Sl) (t10 : Sl) (t11 : Int) (t12 : Int) (w : World) (Q : Exit → Env → World → Prop) : Prop :=
  pr.loop (S3 pr Q) (emb3 list_0 out_3 t10 t11 t12) w
def E (pr : Prims) (list_0 : Sl) (w : World) (R : Ending → World → Prop) : Prop :=
  wpC pr PP cfg (DD pr) (codeOf Try.f60) (retQ Try.f60.results.toList R) (argE 0 [Sl.v list_0]) w
theorem B7_eq (pr : Prims) (list_0 : Sl) (out_3 : Sl) (x_5 : Int) (v_6 : Int) (t10 : Sl) (t11 : Int) (t12 : Int) (t16 : Sl) (t17 : Int) (t18 : Int) (w : World) (k : Env → World → Prop) (Q : Exit → Env → World → Prop) : B7 pr list_0 out_3 x_5 v_6 t10 t11 t12 t16 t17 t18 w k Q = (
  bif decide (t18 < t17) then (
  pr.idxK 1 t16 t18 fun (a10 : Addr) =>
  pr.load1 (.int .i64) a10 w fun (ξ11 : Int) =>
  bif decide (ξ11 < x_5) then (
  k (emb7 list_0 out_3 x_5 (w64 (v_6 + 1)) t10 t11 t12 t16 t17 (w64 (t18 + 1))) w)
  else (
  k (emb7 list_0 out_3 x_5 v_6 t10 t11 t12 t16 t17 (w64 (t18 + 1))) w))
  else (
  Q (.exit 2) (x2 list_0 out_3 v_6 t10 t11 t12) w)) := by kernel_rfl
theorem B7_s (list_0 : Sl) (out_3 : Sl) (x_5 : Int) (v_6 : Int) (t10 : Sl) (t11 : Int) (t12 : Int) (t16 : Sl) (t17 : Int) (t18 : Int) (w : World) (k : Env → World → Prop) (Q : Exit → Env → World → Prop) : B7 std list_0 out_3 x_5 v_6 t10 t11 t12 t16 t17 t18 w k Q = (
  bif decide (t18 < t17) then (
  idxK 1 t16 t18 fun (a10 : Addr) =>
  load1 (.int .i64) a10 w fun (ξ11 : Int) =>
  bif decide (ξ11 < x_5) then (
  k (emb7 list_0 out_3 x_5 (w64 (v_6 + 1)) t10 t11 t12 t16 t17 (w64 (t18 + 1))) w)
  else (
  k (emb7 list_0 out_3 x_5 v_6 t10 t11 t12 t16 t17 (w64 (t18 + 1))) w))
  else (
  Q (.exit 2) (x2 list_0 out_3 v_6 t10 t11 t12) w)) := B7_eq std list_0 out_3 x_5 v_6 t10 t11 t12 t16 t17 t18 w k Q
theorem L7_rule (list_0 : Sl) (out_3 : Sl) (x_5 : Int) (v_6 : Int) (t10 : Sl) (t11 : Int) (t12 : Int) (t16 : Sl) (t17 : Int) (t18 : Int) (w : World) (Q : Exit → Env → World → Prop) (I : Int → Int → World → Prop) (μ : Int → Int → World → Nat) (h0 : I v_6 t18 w)
    (h : ∀ (v_6 : Int) (t18 : Int) (w' : World), I v_6 t18 w' → B7 std list_0 out_3 x_5 v_6 t10 t11 t12 t16 t17 t18 w' (fun e2 w2 => ∃ v_6_n t18_n, e2 = emb7 list_0 out_3 x_5 v_6_n t10 t11 t12 t16 t17 t18_n ∧ I v_6_n t18_n w2 ∧ μ v_6_n t18_n w2 < μ v_6 t18 w') Q) :
    L7 std list_0 out_3 x_5 v_6 t10 t11 t12 t16 t17 t18 w Q := by
  unfold L7
  refine LoopE.intro (σ := Int × Int) (step := S7 std Q) (fun s => emb7 list_0 out_3 x_5 s.1 t10 t11 t12 t16 t17 s.2) (fun s w => I s.1 s.2 w) (fun s w => μ s.1 s.2 w) (v_6, t18) rfl h0 ?_
  intro s w' hI
  have h1 := h s.1 s.2 w' hI
  unfold B7 at h1
  simp only [Prod.exists]
  exact h1
theorem A7_2_eq (pr : Prims) (list_0 : Sl) (out_3 : Sl) (v_6 : Int) (t10 : Sl) (t11 : Int) (t12 : Int) (w : World) (k : Env → World → Prop) (Q : Exit → Env → World → Prop) : (q9 pr k Q) (.exit 2) (x2 list_0 out_3 v_6 t10 t11 t12) w = (
  pr.sem1 .sl PP (Instr.buildSlice T_Sint 1 #[(0, vI v_6)]) w fun (ρ12 : Sl) ω13 =>
  pr.sem1 .sl PP (Builtin.append_ #[T_Sint, T_Sint] T_Sint #[Sl.v out_3, Sl.v ρ12]) ω13 fun (ρ14 : Sl) ω15 =>
  k (emb3 list_0 ρ14 t10 t11 (w64 (t12 + 1))) ω15) := by kernel_rfl
theorem A7_2_s (list_0 : Sl) (out_3 : Sl) (v_6 : Int) (t10 : Sl) (t11 : Int) (t12 : Int) (w : World) (k : Env → World → Prop) (Q : Exit → Env → World → Prop) : (q9 std k Q) (.exit 2) (x2 list_0 out_3 v_6 t10 t11 t12) w = (
  sem1 .sl PP (Instr.buildSlice T_Sint 1 #[(0, vI v_6)]) w fun (ρ12 : Sl) ω13 =>
  sem1 .sl PP (Builtin.append_ #[T_Sint, T_Sint] T_Sint #[Sl.v out_3, Sl.v ρ12]) ω13 fun (ρ14 : Sl) ω15 =>
  k (emb3 list_0 ρ14 t10 t11 (w64 (t12 + 1))) ω15) := A7_2_eq std list_0 out_3 v_6 t10 t11 t12 w k Q
theorem B3_eq (pr : Prims) (list_0 : Sl) (out_3 : Sl) (t10 : Sl) (t11 : Int) (t12 : Int) (w : World) (k : Env → World → Prop) (Q : Exit → Env → World → Prop) : B3 pr list_0 out_3 t10 t11 t12 w k Q = (
  bif decide (t12 < t11) then (
  pr.idxK 1 t10 t12 fun (a6 : Addr) =>
  pr.load1 (.int .i64) a6 w fun (ξ7 : Int) =>
  L7 pr list_0 out_3 ξ7 1 t10 t11 t12 list_0 (list_0.n : Int) 0 w (q9 pr k Q))
  else (
  Q (.exit 0) (x0 out_3) w)) := by kernel_rfl
theorem B3_s (list_0 : Sl) (out_3 : Sl) (t10 : Sl) (t11 : Int) (t12 : Int) (w : World) (k : Env → World → Prop) (Q : Exit → Env → World → Prop) : B3 std list_0 out_3 t10 t11 t12 w k Q = (
  bif decide (t12 < t11) then (
  idxK 1 t10 t12 fun (a6 : Addr) =>
  load1 (.int .i64) a6 w fun (ξ7 : Int) =>
  L7 std list_0 out_3 ξ7 1 t10 t11 t12 list_0 (list_0.n : Int) 0 w (q9 std k Q))
  else (
  Q (.exit 0) (x0 out_3) w)) := B3_eq std list_0 out_3 t10 t11 t12 w k Q
theorem L3_rule (list_0 : Sl) (out_3 : Sl) (t10 : Sl) (t11 : Int) (t12 : Int) (w : World) (Q : Exit → Env → World → Prop) (I : Sl → Int → World → Prop) (μ : Sl → Int → World → Nat) (h0 : I out_3 t12 w)
    (h : ∀ (out_3 : Sl) (t12 : Int) (w' : World), I out_3 t12 w' → B3 std list_0 out_3 t10 t11 t12 w' (fun e2 w2 => ∃ out_3_n t12_n, e2 = emb3 list_0 out_3_n t10 t11 t12_n ∧ I out_3_n t12_n w2 ∧ μ out_3_n t12_n w2 < μ out_3 t12 w') Q) :
    L3 std list_0 out_3 t10 t11 t12 w Q := by
  unfold L3
  refine LoopE.intro (σ := Sl × Int) (step := S3 std Q) (fun s => emb3 list_0 s.1 t10 t11 s.2) (fun s w => I s.1 s.2 w) (fun s w => μ s.1 s.2 w) (out_3, t12) rfl h0 ?_
  intro s w' hI
  have h1 := h s.1 s.2 w' hI
  unfold B3 at h1
  simp only [Prod.exists]
  exact h1
theorem A3_0_eq (pr : Prims) (out_3 : Sl) (w : World) (R : Ending → World → Prop) : (q3 pr R) (.exit 0) (x0 out_3) w = (
  R (.returned (Sl.v out_3)) w) := by kernel_rfl
theorem A3_0_s (out_3 : Sl) (w : World) (R : Ending → World → Prop) : (q3 std R) (.exit 0) (x0 out_3) w = (
  R (.returned (Sl.v out_3)) w) := A3_0_eq std out_3 w R
theorem E_eq (pr : Prims) (list_0 : Sl) (w : World) (R : Ending → World → Prop) : E pr list_0 w R = (
  pr.sem1 .sl PP (Instr.buildSlice T_Sint 0 #[]) w fun (ρ0 : Sl) ω1 =>
  L3 pr list_0 ρ0 list_0 (list_0.n : Int) 0 ω1 (q3 pr R)) := by kernel_rfl
theorem E_s (list_0 : Sl) (w : World) (R : Ending → World → Prop) : E std list_0 w R = (
  sem1 .sl PP (Instr.buildSlice T_Sint 0 #[]) w fun (ρ0 : Sl) ω1 =>
  L3 std list_0 ρ0 list_0 (list_0.n : Int) 0 ω1 (q3 std R)) := E_eq std list_0 w R
theorem drawsOk : drawsOk PP cfg okD (codeOf Try.f60) = true := by kernel_rfl
theorem calls (list_0 : Sl) {w : World} {R : Ending → World → Prop} (h : E std list_0 w R) : Calls PP F.impl_pattern #[Sl.v list_0] w R :=
  calls_of noCount mixed drawOk Try.func60 rfl (c := cfg) (args := [Sl.v list_0]) rfl (Nat.le_of_ble_eq_true (by kernel_rfl)) drawsOk h
end impl_pattern

end Go.Proofs.Yteplokddaebbeaa

/- Ascending lists of places, patterns of lists. No program in sight. -/
namespace Go.Proofs.Yteplokddaebbeaa
open Go
set_option maxRecDepth 100000

def plExt (n : Nat) (l : List Int) : List (List Int) := (seqI (lastD l + 1) ((n : Int) - lastD l).toNat).map fun x => l ++ [x]
def plN (n : Nat) : Nat → List (List Int)
  | 0 => [[]]
  | k + 1 => (plN n k).flatMap (plExt n)
theorem lastD_bd {n : Nat} {l : List Int} (h : ∀ x ∈ l, 1 ≤ x ∧ x ≤ (n : Int)) : 0 ≤ lastD l ∧ lastD l ≤ n := by
  by_cases e : l = []
  · subst e; rw [lastD_nil]; omega
  · have := h _ (lastD_mem e); omega
theorem plN_facts (n : Nat) : ∀ k, ∀ l ∈ plN n k, l.length = k ∧ ∀ x ∈ l, 1 ≤ x ∧ x ≤ (n : Int)
  | 0, l, h => by simp [plN] at h; subst h; simp
  | k + 1, l, h => by
    rw [plN, List.mem_flatMap] at h
    obtain ⟨m, hm, h⟩ := h
    obtain ⟨h1, h2⟩ := plN_facts n k m hm
    rw [plExt, List.mem_map] at h
    obtain ⟨x, hx, rfl⟩ := h
    rw [mem_seqI] at hx
    have hl := lastD_bd h2
    refine ⟨by simp [h1], fun y hy => ?_⟩
    rcases List.mem_append.1 hy with hy | hy
    · exact h2 y hy
    · simp at hy; subst hy; omega
theorem plExt_len {n : Nat} {l : List Int} (h : ∀ x ∈ l, 1 ≤ x ∧ x ≤ (n : Int)) : (plExt n l).length ≤ n := by
  have := lastD_bd h
  rw [plExt, List.length_map, seqI_length]; omega
theorem plN_len (n : Nat) : ∀ k, (plN n k).length ≤ n ^ k
  | 0 => by simp [plN]
  | k + 1 => by
    rw [plN, Nat.pow_succ]
    exact Nat.le_trans (length_flatMap_le _ _ n fun l hl => plExt_len (plN_facts n k l hl).2) (Nat.mul_le_mul_right _ (plN_len n k))
/-- How many of the first m numbers are less. -/
def lessN (L : List Int) (x : Int) : Nat → Int
  | 0 => 0
  | m + 1 => lessN L x m + if L.getD m 0 < x then 1 else 0
theorem lessN_bd (L : List Int) (x : Int) : ∀ m, 0 ≤ lessN L x m ∧ lessN L x m ≤ m
  | 0 => by simp [lessN]
  | m + 1 => by have := lessN_bd L x m; rw [lessN]; split <;> omega
def patV (L : List Int) : List Int := tab L.length fun k => 1 + lessN L (L.getD k 0) L.length
def atV (P l : List Int) : List Int := l.map fun i => P.getD (i - 1).toNat 0
def occV (P Q : List Int) : List (List Int) := (plN P.length Q.length).filter fun l => decide (patV (atV P l) = Q)
theorem lessN_mono (L : List Int) {x y : Int} (h : x ≤ y) : ∀ m, lessN L x m ≤ lessN L y m
  | 0 => Int.le_refl _
  | m + 1 => by
    have := lessN_mono L h m
    rw [lessN, lessN]
    split <;> split <;> omega
theorem lessN_lt (L : List Int) {x y : Int} (h : x < y) {i : Nat} (hi : L.getD i 0 = x) : ∀ m, i < m → lessN L x m < lessN L y m
  | 0, hm => by omega
  | m + 1, hm => by
    rw [lessN, lessN]
    by_cases e : i = m
    · subst e
      have := lessN_mono L (Int.le_of_lt h) i
      rw [if_neg (by omega), if_pos (by omega)]; omega
    · have := lessN_lt L h hi m (by omega)
      split <;> split <;> omega
/-- A list has a pattern if and only if both ascend alike. -/
theorem patV_iso {L Q : List Int} (hl : L.length = Q.length) (hQ : patV Q = Q) : patV L = Q ↔ ∀ i j, i < Q.length → j < Q.length → (L.getD i 0 < L.getD j 0 ↔ Q.getD i 0 < Q.getD j 0) := by
  constructor
  · intro h i j hi hj
    have e : ∀ k, k < Q.length → Q.getD k 0 = 1 + lessN L (L.getD k 0) L.length := fun k hk => by
      conv => lhs; rw [← h, patV]
      exact tab_getD _ (by omega)
    rw [e i hi, e j hj]
    constructor
    · intro h1
      have := lessN_lt L h1 rfl L.length (by omega : i < L.length)
      omega
    · intro h1
      rcases Int.lt_or_le (L.getD i 0) (L.getD j 0) with h2 | h2
      · exact h2
      · have := lessN_mono L h2 L.length; omega
  · intro h
    have e : ∀ k, k < Q.length → ∀ m, m ≤ Q.length → lessN L (L.getD k 0) m = lessN Q (Q.getD k 0) m := fun k hk m => by
      induction m with
      | zero => intro _; rfl
      | succ m ih =>
        intro hm
        rw [lessN, lessN, ih (by omega)]
        have := h m k (by omega) hk
        by_cases h1 : L.getD m 0 < L.getD k 0
        · rw [if_pos h1, if_pos (this.1 h1)]
        · rw [if_neg h1, if_neg fun h2 => h1 (this.2 h2)]
    rw [← hQ, patV, patV, hl]
    exact tab_congr fun k hk => by rw [e k hk Q.length (Nat.le_refl _)]
end Go.Proofs.Yteplokddaebbeaa

/- What each function does, step by step, written by a program (Gen.lean); each equation is checked by the kernel. -/
namespace Go.Proofs.Yteplokddaebbeaa
open Go
set_option linter.unusedVariables false
set_option maxRecDepth 100000
end Go.Proofs.Yteplokddaebbeaa

/- The library's equality of rows. -/
namespace Go.Proofs.Yteplokddaebbeaa
open Go Go.RowKit
set_option maxRecDepth 100000

end Go.Proofs.Yteplokddaebbeaa

/- Which blocks a slice of rows stands on, and what a step does to them. -/
namespace Go.Proofs.Yteplokddaebbeaa
open Go Go.RowKit
set_option maxRecDepth 100000

/-- The blocks of a slice of rows. -/
def foot (s : Sl) (rs : List Sl) (g : Nat) : Prop := s.blk = some g ∨ ∃ r ∈ rs, r.blk = some g
theorem OwnRows.footLt {w B s rs LL} (h : OwnRows w B s rs LL) {g : Nat} (hg : foot s rs g) : B ≤ g ∧ g < w.heap.size := by
  rcases hg with hg | ⟨r, hr, hg⟩
  · exact h.out.lt g hg
  · exact h.lt hr hg
theorem OwnRows.keepsF {S : Nat → Prop} {w w' B s rs LL} (h : OwnRows w B s rs LL) (hk : Keeps S w w') (hd : ∀ g, foot s rs g → ¬ S g) : OwnRows w' B s rs LL :=
  h.keeps hk (fun g hg => hd g (.inl hg)) (fun r hr g hg => hd g (.inr ⟨r, hr, hg⟩))
/-- A step that writes S alone, and what S becomes: nothing but S and what is new. -/
structure Stp (w w' : World) (S S' : Nat → Prop) : Prop where
  keeps : Keeps S w w'
  next : ∀ g, S' g → S g ∨ w.heap.size ≤ g
theorem Stp.refl (w : World) (S : Nat → Prop) : Stp w w S S := ⟨Keeps.refl _ _, fun _ h => .inl h⟩
theorem Stp.trans {a b c : World} {S T U : Nat → Prop} (h : Stp a b S T) (k : Stp b c T U) : Stp a c S U := by
  refine ⟨⟨k.keeps.os.trans h.keeps.os, k.keeps.tape.trans h.keeps.tape, k.keeps.output.trans h.keeps.output, Nat.le_trans h.keeps.size k.keeps.size, fun x hx hn => ?_⟩, fun g hg => ?_⟩
  · rw [k.keeps.block x (Nat.lt_of_lt_of_le hx h.keeps.size) fun ht => ?_]
    · exact h.keeps.block x hx hn
    · rcases h.next x ht with h1 | h1
      · exact hn h1
      · omega
  · rcases k.next g hg with h1 | h1
    · exact h.next g h1
    · have := h.keeps.size; exact .inr (by omega)
/-- What stands on other blocks stays apart. -/
theorem Stp.apart {w w' : World} {S S' F : Nat → Prop} (h : Stp w w' S S') (hF : ∀ g, F g → g < w.heap.size) (hd : ∀ g, S g → ¬ F g) : ∀ g, S' g → ¬ F g := fun g h1 h2 => by
  rcases h.next g h1 with h3 | h3
  · exact hd g h3 h2
  · have := hF g h2; omega
theorem Stp.grow {w w' : World} {S : Nat → Prop} (h : Below w.heap.size w w') : Stp w w' S S := ⟨(keeps_grown (grow_of_below h)).mono (fun k e => by cases e), fun _ h => .inl h⟩
theorem Stp.below {w w' : World} {S S' : Nat → Prop} {B : Nat} (h : Stp w w' S S') (hS : ∀ g, S g → B ≤ g) (hB : B ≤ w.heap.size) : Below B w w' := h.keeps.below hS hB

theorem getElem?_getD {LL : List (List Int)} {i : Nat} (hi : i < LL.length) : LL[i]? = some (LL.getD i []) := by simp [List.getD_eq_getElem?_getD, List.getElem?_eq_getElem hi]
/-- 'rows[i] = append(rows[i], x)'. -/
theorem OwnRows.appendAtF {w B s rs LL} (h : OwnRows w B s rs LL) {i : Int} (h0 : 0 ≤ i) (hi : i < LL.length) (hB : B ≤ w.heap.size) (hlen : (LL.getD i.toNat []).length < 2^39) {x : Int} {K : World → Prop}
    (hk : ∀ w' rs', OwnRows w' B s rs' (LL.set i.toNat (LL.getD i.toNat [] ++ [x])) → Stp w w' (foot s rs) (foot s rs') → K w') :
    idxK 1 s i fun a => load1 .sl a w fun (t : Sl) => sem1 .sl PP (Instr.buildSlice T_Sint 1 #[(0, vI x)]) w fun (ρ : Sl) w1 => sem1 .sl PP (Builtin.append_ #[T_Sint, T_Sint] T_Sint #[t.v, ρ.v]) w1 fun (t' : Sl) w2 =>
      idxK 1 s i fun a2 => storeC a2 t'.v w2 K := by
  obtain ⟨t, h1, h2⟩ := h.get (i := i.toNat) (by omega)
  refine Row.get (sh := .sl) (r := t) h.out.row h0 (by rw [List.getElem?_map, h1]; rfl) ?_
  refine append_int h2 hB hlen ?_
  intro t' w5 ht' hg5 hn5
  have hs5 : Own w5 B T_Sint s (rs.map Sl.v) := h.out.kept hg5 fun g hg' e => (h.out.apt h2 (by decide)) g hg' e
  refine Own.put hs5 h0 (by rw [List.length_map, h.len]; exact hi) (v := t'.v) ?_
  intro w6 ho6 hg6 _
  have hm : t ∈ rs := List.mem_of_getElem? h1
  refine hk w6 _ (h.setNew h1 hg5 ht' hn5 ho6 hg6 rfl) ⟨?_, fun g hg => ?_⟩
  · exact ((keeps_grown hg5).mono (fun k e => .inr ⟨t, hm, e⟩)).trans ((keeps_grown hg6).mono (fun k e => .inl e))
  · rcases hg with hg | ⟨r, hr, hg⟩
    · exact .inl (.inl hg)
    · rcases List.mem_or_eq_of_mem_set hr with hr | rfl
      · exact .inl (.inr ⟨r, hr, hg⟩)
      · rcases hn5 g hg with h3 | h3
        · exact .inl (.inr ⟨t, hm, h3⟩)
        · exact .inr h3
/-- 'rows[i][c] = x'. -/
theorem OwnRows.setAtF {w B s rs LL} (h : OwnRows w B s rs LL) {i c : Int} (h0 : 0 ≤ i) (hi : i < LL.length) (hc0 : 0 ≤ c) (hc : c < (LL.getD i.toNat []).length) {x : Int} {K : World → Prop}
    (hk : ∀ w', OwnRows w' B s rs (LL.set i.toNat ((LL.getD i.toNat []).set c.toNat x)) → Stp w w' (foot s rs) (foot s rs) → w'.heap.size = w.heap.size → K w') :
    idxK 1 s i fun a => load1 .sl a w fun (t : Sl) => idxK 1 t c fun a2 => storeC a2 (vI x) w K := by
  obtain ⟨t, h1, h2⟩ := h.get (i := i.toNat) (by omega)
  refine Row.get (sh := .sl) (r := t) h.out.row h0 (by rw [List.getElem?_map, h1]; rfl) ?_
  refine Own.put h2 hc0 (by rw [List.length_map]; exact hc) ?_
  intro w6 ho6 hg6 hs6
  refine hk w6 (h.inside h1 (by simpa [OwnI, List.map_set] using ho6) hg6) ⟨?_, fun g hg => .inl hg⟩ hs6
  exact (keeps_grown hg6).mono (fun k e => .inr ⟨t, List.mem_of_getElem? h1, e⟩)
theorem foot_push {w w' : World} {s s' : Sl} {rs : List Sl} {r : Sl} {C : Nat} (hg : w.grownBy w' s.blk) (hn : Next w s s') (hC : C ≤ w.heap.size) (hr : ∀ g, r.blk = some g → C ≤ g) : Keeps (foot s rs) w w' ∧ ∀ g, foot s' (rs ++ [r]) g → foot s rs g ∨ C ≤ g := by
  refine ⟨(keeps_grown hg).mono (fun k e => .inl e), fun g hg => ?_⟩
  rcases hg with hg | ⟨t, ht, hg⟩
  · rcases hn g hg with h1 | h1
    · exact .inl (.inl h1)
    · exact .inr (by omega)
  · rcases List.mem_append.1 ht with ht | ht
    · exact .inl (.inr ⟨t, ht, hg⟩)
    · simp at ht; subst ht; exact .inr (hr g hg)
/-- 'append(rows, row)', the row made by this step. -/
theorem OwnRows.pushF {w0 w : World} {B : Nat} {s : Sl} {rs : List Sl} {LL : List (List Int)} {r : Sl} {L : List Int} (h0 : OwnRows w0 B s rs LL) (hb : Below w0.heap.size w0 w) (hB : B ≤ w0.heap.size) (hr : OwnI w B r L) (hrn : ∀ g, r.blk = some g → w0.heap.size ≤ g) (hn : LL.length < 2^39) {K : Sl → World → Prop}
    (hk : ∀ s' w', OwnRows w' B s' (rs ++ [r]) (LL ++ [L]) → Stp w0 w' (foot s rs) (foot s' (rs ++ [r])) → K s' w') :
    sem1 .sl PP (Instr.buildSlice T_SSint 1 #[(0, r.v)]) w fun t w1 => sem1 .sl PP (Builtin.append_ #[T_SSint, T_SSint] T_SSint #[s.v, t.v]) w1 K := by
  refine append_sl (h0.grow hb) (Nat.le_trans hB hb.size) hr (fun t ht => Apt.of_lt (fun g hg => (h0.lt ht hg).2) hrn) hn fun s' w' h1 h2 h3 => hk s' w' h1 ?_
  obtain ⟨k1, k2⟩ := foot_push (rs := rs) h2 h3 hb.size hrn
  exact ⟨((Stp.grow (S := foot s rs) hb).keeps).trans k1, k2⟩
end Go.Proofs.Yteplokddaebbeaa

/- Places, patterns and occurrences: the program's text. -/
namespace Go.Proofs.Yteplokddaebbeaa
open Go Go.RowKit
set_option maxRecDepth 100000

theorem seqI_take {a i : Int} (h : a ≤ i) : seqI a (i + 1 - a).toNat = seqI a (i - a).toNat ++ [i] := by
  rw [show (i + 1 - a).toNat = (i - a).toNat + 1 by omega, seqI_succ, show a + ((i - a).toNat : Int) = i by omega]
theorem c_pattern {w : World} {a : Sl} {L : List Int} (ha : RowI w a L) (hL : L.length < 2^30) :
    Calls PP F.impl_pattern #[a.v] w fun e w' => ∃ s : Sl, e = .returned s.v ∧ OwnI w' w.heap.size s (patV L) ∧ Below w.heap.size w w' := by
  have han : a.n = L.length := by have := ha.n; simpa using this
  refine impl_pattern.calls a ?_
  rw [impl_pattern.E_s]
  refine lit0 oneInt (B := w.heap.size) (Nat.le_refl _) ?_
  intro s0 w1 hs0 hg1 _
  have hb1 := below_of_grow hg1
  rw [han]
  refine impl_pattern.L3_rule _ _ _ _ _ _ _ (I := fun s k w' => 0 ≤ k ∧ k ≤ L.length ∧ OwnI w' w.heap.size s (tab k.toNat fun j => 1 + lessN L (L.getD j 0) L.length) ∧ Below w.heap.size w w') (μ := fun _ k _ => (L.length - k).toNat)
    ⟨by omega, by omega, by simpa [tab, OwnI] using hs0, hb1⟩ ?_
  rintro s k w2 ⟨hk0, hk, hs, hb⟩
  rw [impl_pattern.B3_s]
  refine bif_dec (fun h3 => ?_) (fun h3 => ?_)
  · refine RowI.get (ha.grow hb) hk0 (by omega) ?_
    rw [han]
    refine impl_pattern.L7_rule _ _ _ _ _ _ _ _ _ _ _ _ (I := fun v i w' => w' = w2 ∧ 0 ≤ i ∧ i ≤ L.length ∧ v = 1 + lessN L (L.getD k.toNat 0) i.toNat) (μ := fun _ i _ => (L.length - i).toNat) ⟨rfl, by omega, by omega, by simp [lessN]⟩ ?_
    rintro v i w3 ⟨rfl, hi0, hi, rfl⟩
    have hlb := lessN_bd L (L.getD k.toNat 0) i.toNat
    rw [impl_pattern.B7_s]
    refine bif_dec (fun h4 => ?_) (fun h4 => ?_)
    · refine RowI.get (ha.grow hb) hi0 (by omega) ?_
      refine bif_dec (fun h5 => ?_) (fun h5 => ?_)
      · refine ⟨_, i + 1, by rw [w64_succ hi0 (by omega), w64_id (by omega) (by omega)], ⟨rfl, by omega, by omega, ?_⟩, by omega⟩
        rw [show (i + 1).toNat = i.toNat + 1 by omega, lessN, if_pos h5]; omega
      · refine ⟨_, i + 1, by rw [w64_succ hi0 (by omega)], ⟨rfl, by omega, by omega, ?_⟩, by omega⟩
        rw [show (i + 1).toNat = i.toNat + 1 by omega, lessN, if_neg h5]; omega
    · rw [impl_pattern.A7_2_s]
      refine append_int hs hb.size (by rw [tab_length]; omega) ?_
      intro s' w4 hs' hg4 _
      refine ⟨s', k + 1, by rw [w64_succ hk0 (by omega)], ⟨by omega, by omega, ?_, hb.grown hg4 hb.size (fun g hg => (hs.lt g hg).1)⟩, by omega⟩
      rw [show (k + 1).toNat = k.toNat + 1 by omega, tab_succ]
      rw [show i.toNat = L.length by omega] at hs'
      exact hs'
  · rw [impl_pattern.A3_0_s]
    rw [show k.toNat = L.length by omega] at hs
    exact ⟨s, rfl, hs, hb⟩
end Go.Proofs.Yteplokddaebbeaa

/- What each function does, step by step, written by a program (Gen.lean); each equation is checked by the kernel. -/
namespace Go.Proofs.Yteplokddaebbeaa
open Go
set_option linter.unusedVariables false
set_option maxRecDepth 100000
namespace slices_Delete___int_int_
@[reducible] def cfg : Cfg := ⟨33, [], [], [], [6], [], [17, 15, 81, 40, 36, 66, 59, 92, 87], [76, 85, 43, 4, 32, 37, 31]⟩
def E (pr : Prims) (s_0 : Sl) (i_1 : Int) (j_2 : Int) (w : World) (R : Ending → World → Prop) : Prop :=
  wpC pr PP cfg (DD pr) (codeOf Try.f61) (retQ Try.f61.results.toList R) (argE 0 [Sl.v s_0, vI i_1, vI j_2]) w
theorem E_eq (pr : Prims) (s_0 : Sl) (i_1 : Int) (j_2 : Int) (w : World) (R : Ending → World → Prop) : E pr s_0 i_1 j_2 w R = (
  pr.cut3K 1 s_0 (some i_1) j_2 (s_0.n : Int) fun (s0 : Sl) =>
  bif i_1 == j_2 then (
  R (.returned (Sl.v s_0)) w)
  else (
  pr.drewAll w fun ω1 =>
  pr.cutK 1 s_0 none (some i_1) fun (s2 : Sl) =>
  pr.cutK 1 s_0 (some j_2) none fun (s3 : Sl) =>
  pr.sem1 .sl PP (Builtin.append_ #[T_Sint, T_Sint] T_Sint #[Sl.v s2, Sl.v s3]) ω1 fun (ρ4 : Sl) ω5 =>
  pr.cutK 1 ρ4 (some (ρ4.n : Int)) (some (s_0.n : Int)) fun (s6 : Sl) =>
  pr.sem1 .any PP (Builtin.clear_ #[T_Sint] T___ #[Sl.v s6]) ω5 fun (ρ7 : Value) ω8 =>
  R (.returned (Sl.v ρ4)) ω8)) := by kernel_rfl
theorem E_s (s_0 : Sl) (i_1 : Int) (j_2 : Int) (w : World) (R : Ending → World → Prop) : E std s_0 i_1 j_2 w R = (
  cut3K 1 s_0 (some i_1) j_2 (s_0.n : Int) fun (s0 : Sl) =>
  bif i_1 == j_2 then (
  R (.returned (Sl.v s_0)) w)
  else (
  drewAll w fun ω1 =>
  cutK 1 s_0 none (some i_1) fun (s2 : Sl) =>
  cutK 1 s_0 (some j_2) none fun (s3 : Sl) =>
  sem1 .sl PP (Builtin.append_ #[T_Sint, T_Sint] T_Sint #[Sl.v s2, Sl.v s3]) ω1 fun (ρ4 : Sl) ω5 =>
  cutK 1 ρ4 (some (ρ4.n : Int)) (some (s_0.n : Int)) fun (s6 : Sl) =>
  sem1 .any PP (Builtin.clear_ #[T_Sint] T___ #[Sl.v s6]) ω5 fun (ρ7 : Value) ω8 =>
  R (.returned (Sl.v ρ4)) ω8)) := E_eq std s_0 i_1 j_2 w R
theorem drawsOk : drawsOk PP cfg okD (codeOf Try.f61) = true := by kernel_rfl
theorem calls (s_0 : Sl) (i_1 : Int) (j_2 : Int) {w : World} {R : Ending → World → Prop} (h : E std s_0 i_1 j_2 w R) : Calls PP F.slices_Delete___int_int_ #[Sl.v s_0, vI i_1, vI j_2] w R :=
  calls_of noCount mixed drawOk Try.func61 rfl (c := cfg) (args := [Sl.v s_0, vI i_1, vI j_2]) rfl (Nat.le_of_ble_eq_true (by kernel_rfl)) drawsOk h
end slices_Delete___int_int_

end Go.Proofs.Yteplokddaebbeaa

/- The library's Delete of one element of a row of ints that the call owns. -/
namespace Go.Proofs.Yteplokddaebbeaa
open Go Go.RowKit
set_option maxRecDepth 100000

theorem keepsTrans {a b c : World} {r : Option Nat} (h : a.grownBy b r) (k : b.grownBy c r) : a.grownBy c r :=
  ⟨k.os.trans h.os, k.tape.trans h.tape, k.output.trans h.output, Nat.le_trans h.size k.size, fun x hx hne => (k.block x (Nat.lt_of_lt_of_le hx h.size) hne).trans (h.block x hx hne)⟩
theorem c_Delete {w : World} {B : Nat} {s : Sl} {L : List Int} (h : OwnI w B s L) (hB : B ≤ w.heap.size) (hL : L.length < 2^38) {i : Int} (h0 : 0 ≤ i) (hi : i < L.length) :
    Calls PP F.slices_Delete___int_int_ #[s.v, vI i, vI (i + 1)] w fun e w' => ∃ s' : Sl, e = .returned s'.v ∧ OwnI w' B s' (L.take i.toNat ++ L.drop (i.toNat + 1)) ∧ w.grownBy w' s.blk ∧ Next w s s' := by
  have hsn : s.n = L.length := by have := h.n; simpa using this
  have hnc := h.nc
  refine slices_Delete___int_int_.calls s i (i + 1) ?_
  rw [slices_Delete___int_int_.E_s]
  refine ⟨by simpa using h0, by simp; omega, by omega, by omega, ?_⟩
  refine bif_f (by simp; omega) ?_
  refine drew_intro fun w1 hd => ?_
  have h1 : OwnI w1 B s L := h.heap hd.heap'
  refine Own.popE h1 h0 (by simp; omega) fun hs2 => ?_
  refine Row.cut h1.row (lo := some (i + 1)) (hi := none) (by simp; omega) (by simp; omega) (by simp; omega) ?_
  intro s3 hs3
  have e3 : (List.take ((none : Option Int).getD (s.n : Int)).toNat (L.map vI)).drop ((some (i + 1)).getD 0).toNat = (L.drop (i.toNat + 1)).map vI := by
    simp only [Option.getD_none, Option.getD_some, Int.toNat_natCast]
    rw [List.take_of_length_le (by simp; omega), List.map_drop, show (i + 1).toNat = i.toNat + 1 by omega]
  rw [e3] at hs3
  have e2 : (L.map vI).take i.toNat = (L.take i.toNat).map vI := by rw [List.map_take]
  rw [e2] at hs2
  have hsz : w1.heap.size = w.heap.size := by rw [hd.heap']
  have hlen : (List.map vI (List.take i.toNat L) ++ List.map vI (List.drop (i.toNat + 1) L)).length + 1 = L.length := by simp; omega
  refine append_room oneInt hs2 (by omega) hs3 (fun v hv => by obtain ⟨x, _, rfl⟩ := List.mem_map.1 hv; exact One.int x) (by simp; omega) (by simp only [List.length_map, List.length_take, List.length_drop]; omega) ?_
  intro s4 w4 hs4 hg4 hn4 hc4
  simp only at hc4
  refine clear_spare hs4 (by omega) (by omega) ?_
  intro r w5 hs5 hg5 _
  have hblk2 : ∀ g, (⟨s.a, i.toNat, s.c⟩ : Sl).blk = some g ↔ s.blk = some g := fun g => by simp [Sl.blk]
  have eblk : (⟨s.a, i.toNat, s.c⟩ : Sl).blk = s.blk := by simp [Sl.blk]
  rw [eblk] at hg4
  have hw4 : w.grownBy w4 s.blk := ⟨hg4.os.trans (hd.below 0).os, hg4.tape.trans (hd.below 0).tape, hg4.output.trans (hd.below 0).output, by have := hg4.size; omega, fun x hx hne => by rw [hg4.block x (by omega) hne, hd.heap']⟩
  refine ⟨s4, rfl, by simpa [OwnI] using hs5, ⟨hg5.os.trans hw4.os, hg5.tape.trans hw4.tape, hg5.output.trans hw4.output, Nat.le_trans hw4.size hg5.size, fun x hx hne => ?_⟩, fun g hg => ?_⟩
  · rw [hg5.block x (Nat.lt_of_lt_of_le hx hw4.size) (fun e => ?_), hw4.block x hx hne]
    rcases hn4 x e.symm with h6 | h6
    · rw [eblk] at h6; exact hne h6.symm
    · omega
  · rcases hn4 g hg with h6 | h6
    · rw [eblk] at h6; exact .inl h6
    · exact .inr (by omega)
end Go.Proofs.Yteplokddaebbeaa

/- What each function does, step by step, written by a program (Gen.lean); each equation is checked by the kernel. -/
namespace Go.Proofs.Yteplokddaebbeaa
open Go
set_option linter.unusedVariables false
set_option maxRecDepth 100000
end Go.Proofs.Yteplokddaebbeaa

/- Plain law: ascending chains, told from their ends. -/
namespace Go.Proofs.Yteplokddaebbeaa
open Go Go.RowKit
set_option maxRecDepth 100000

/-- An ascending chain of m places that begins at i. -/
inductive Fr (L : List Int) : Nat → Nat → Prop
  | one {i : Nat} : i < L.length → Fr L i 1
  | cons {i k m : Nat} : i < k → k < L.length → L.getD i 0 < L.getD k 0 → Fr L k m → Fr L i (m + 1)
/-- An ascending chain of m places that ends at k. -/
inductive En (L : List Int) : Nat → Nat → Prop
  | one {k : Nat} : k < L.length → En L k 1
  | snoc {i k m : Nat} : i < k → k < L.length → L.getD i 0 < L.getD k 0 → En L i m → En L k (m + 1)
theorem Fr.pos {L i m} (h : Fr L i m) : 1 ≤ m := by cases h <;> omega
theorem En.pos {L i m} (h : En L i m) : 1 ≤ m := by cases h <;> omega
theorem Fr.lt {L i m} (h : Fr L i m) : i < L.length := by cases h <;> omega
theorem Fr.toEn {L : List Int} {i m : Nat} (h : Fr L i m) : ∀ p, En L i p → ∃ k, En L k (p + m - 1) := by
  induction h with
  | one hi => exact fun p hp => ⟨_, by simpa using hp⟩
  | @cons i k m hik hk hlt _ ih =>
    intro p hp
    obtain ⟨k', h⟩ := ih (p + 1) (.snoc hik hk hlt hp)
    exact ⟨k', by rw [show p + (m + 1) - 1 = p + 1 + m - 1 by omega]; exact h⟩
theorem En.toFr {L : List Int} {k m : Nat} (h : En L k m) : ∀ p, Fr L k p → ∃ i, Fr L i (p + m - 1) := by
  induction h with
  | one hi => exact fun p hp => ⟨_, by simpa using hp⟩
  | @snoc i k m hik hk hlt _ ih =>
    intro p hp
    obtain ⟨k', h⟩ := ih (p + 1) (.cons hik hk hlt hp)
    exact ⟨k', by rw [show p + (m + 1) - 1 = p + 1 + m - 1 by omega]; exact h⟩
theorem Fr.le {L i m} (h : Fr L i m) : i + m ≤ L.length := by
  induction h with
  | one h => omega
  | cons h1 _ _ _ ih => omega
theorem En.le {L i m} (h : En L i m) : m ≤ i + 1 := by
  induction h with
  | one h => omega
  | snoc h1 _ _ _ ih => omega

/-- A number is the greatest m with a property. -/
def Most (P : Nat → Prop) (x : Int) : Prop := ∃ m : Nat, x = m ∧ P m ∧ ∀ m', P m' → m' ≤ m

/-- The greatest of the first k numbers, 0 at least. -/
def mx (f : Nat → Int) : Nat → Int
  | 0 => 0
  | k + 1 => max (mx f k) (f k)
theorem mx_ge {f : Nat → Int} {n k : Nat} (h : k < n) : f k ≤ mx f n := by
  induction n with
  | zero => omega
  | succ n ih =>
    simp only [mx]
    by_cases hk : k < n
    · have := ih hk; omega
    · have : k = n := by omega
      subst this; omega
theorem mx_mem {f : Nat → Int} {n : Nat} : mx f n = 0 ∨ ∃ k, k < n ∧ mx f n = f k := by
  induction n with
  | zero => exact .inl rfl
  | succ n ih =>
    simp only [mx]
    rcases Int.le_total (mx f n) (f n) with h | h
    · exact .inr ⟨n, by omega, by omega⟩
    · rcases ih with ih | ⟨k, hk, he⟩
      · exact .inl (by omega)
      · exact .inr ⟨k, by omega, by omega⟩
theorem mx_nonneg {f : Nat → Int} {n : Nat} : 0 ≤ mx f n := by
  induction n with
  | zero => exact Int.le_refl _
  | succ n ih => simp only [mx]; omega
def enI (L : List Int) (f : Nat → Int) (k : Nat) : Nat → Int
  | 0 => 1
  | i + 1 => if L.getD i 0 < L.getD k 0 then max (enI L f k i) (w64 (f i + 1)) else enI L f k i
def enT (L : List Int) : Nat → Nat → Int
  | 0, _ => 0
  | k + 1, j => if j = k then enI L (enT L k) k k else enT L k j
theorem enI_spec {L : List Int} (hL : L.length < 2^38) {f : Nat → Int} {k : Nat} (hk : k < L.length) (hv : ∀ i, i < k → Most (En L i) (f i)) : ∀ c, c ≤ k →
    1 ≤ enI L f k c ∧ (enI L f k c = 1 ∨ ∃ i, i < c ∧ L.getD i 0 < L.getD k 0 ∧ enI L f k c = f i + 1) ∧ ∀ i, i < c → L.getD i 0 < L.getD k 0 → f i + 1 ≤ enI L f k c
  | 0, _ => ⟨by simp [enI], .inl rfl, fun i hi => by omega⟩
  | c + 1, hc => by
    obtain ⟨h1, h2, h3⟩ := enI_spec hL hk hv c (by omega)
    obtain ⟨m, hm, hf, _⟩ := hv c (by omega)
    have hle := hf.le
    have hw : w64 (f c + 1) = f c + 1 := w64_id (by omega) (by omega)
    rw [enI, hw]
    split
    · rename_i hlt
      refine ⟨by omega, ?_, fun i hi hl => ?_⟩
      · rcases Int.le_total (enI L f k c) (f c + 1) with h | h
        · exact .inr ⟨c, by omega, hlt, by omega⟩
        · rcases h2 with h2 | ⟨i, a, b, d⟩
          · exact .inl (by omega)
          · exact .inr ⟨i, by omega, b, by omega⟩
      · by_cases hic : i < c
        · have := h3 i hic hl; omega
        · have : i = c := by omega
          subst this; omega
    · rename_i hlt
      refine ⟨h1, h2.imp id (fun ⟨i, a, b, d⟩ => ⟨i, by omega, b, d⟩), fun i hi hl => ?_⟩
      by_cases hic : i < c
      · exact h3 i hic hl
      · have : i = c := by omega
        subst this; exact absurd hl hlt
theorem enT_spec {L : List Int} (hL : L.length < 2^38) : ∀ d, d ≤ L.length → ∀ j, j < d → Most (En L j) (enT L d j)
  | 0, _, j, h => by omega
  | d + 1, hd, j, hj => by
    rw [enT]
    split
    · rename_i he
      subst he
      obtain ⟨a1, a2, a3⟩ := enI_spec hL (k := j) (by omega) (f := enT L j) (fun i hi => enT_spec hL j (by omega) i hi) j (Nat.le_refl _)
      refine ⟨(enI L (enT L j) j j).toNat, by omega, ?_, fun m' hm' => ?_⟩
      · rcases a2 with a2 | ⟨i, b1, b2, b3⟩
        · rw [a2]; exact .one (by omega)
        · obtain ⟨m, hm, hf, _⟩ := enT_spec hL j (by omega) i b1
          rw [b3, show (enT L j i + 1).toNat = m + 1 by omega]
          exact .snoc b1 (by omega) b2 hf
      · cases hm' with
        | one _ => omega
        | snoc c1 c2 c3 c4 =>
          rename_i i m
          have := a3 i c1 c3
          obtain ⟨m2, hm2, _, hmax⟩ := enT_spec hL j (by omega) i c1
          have := hmax m c4
          omega
    · exact enT_spec hL d (by omega) j (by omega)
end Go.Proofs.Yteplokddaebbeaa

/- The length of a longest ascending part: the model text's. -/
namespace Go.Proofs.Yteplokddaebbeaa
open Go Go.RowKit
set_option maxRecDepth 100000

theorem c_l1Max (a b : Int) : Pure F.spec_l1Max #[vI a, vI b] (vI (max a b)) := by
  intro w
  refine spec_l1Max.calls a b ?_
  rw [spec_l1Max.E_s]
  refine bif_dec (fun h => ?_) (fun h => ?_)
  · exact ⟨by rw [Int.max_eq_left (by omega)], rfl⟩
  · exact ⟨by rw [Int.max_eq_right (by omega)], rfl⟩

/-- The length of a longest ascending pattern. -/
def luV (L : List Int) : Int := mx (enT L L.length) L.length
theorem PermOk.ne {L : List Int} (h : PermOk L) : ∀ i j, i < j → j < L.length → L.getD i 0 ≠ L.getD j 0 := fun i j hij hj => (h j hj).2.2 i hij

theorem mx_congr {f g : Nat → Int} {n : Nat} (h : ∀ j, j < n → f j = g j) : mx f n = mx g n := by
  induction n with
  | zero => rfl
  | succ n ih => simp only [mx]; rw [ih (fun j hj => h j (by omega)), h n (by omega)]

theorem enT_stable (L : List Int) : ∀ d j, j < d → ∀ e, d ≤ e → enT L e j = enT L d j := by
  intro d j hj e he
  induction e with
  | zero => omega
  | succ e ih =>
    by_cases h : d = e + 1
    · rw [h]
    · rw [enT, if_neg (by omega), ih (by omega)]


end Go.Proofs.Yteplokddaebbeaa

/- The draw of a basis with a permutation that is often of its class. -/
namespace Go.Proofs.Yteplokddaebbeaa
open Go Go.RowKit
set_option maxRecDepth 100000

theorem ClassOfV_small {LL : List (List Int)} {n : Int} (hn : n ≤ 4) : (ClassOfV LL n).length ≤ 256 ∧ ∀ P ∈ ClassOfV LL n, P.length ≤ 4 := by
  unfold ClassOfV
  split
  · rename_i h
    have h1 : (classV LL n.toNat).length ≤ (permsV n.toNat).length := List.length_filter_le _ _
    have h2 := permsV_length n.toNat
    have h3 : n.toNat ^ n.toNat ≤ 4 ^ 4 := Nat.le_trans (Nat.pow_le_pow_left (show n.toNat ≤ 4 by omega) _) (Nat.pow_le_pow_right (by omega) (by omega))
    refine ⟨by omega, fun P hP => ?_⟩
    have := permsV_len (classV_mem hP).1
    omega
  · exact ⟨by simp, fun P hP => by cases hP⟩
theorem OwnSS.curs {w w' B s LL c} (h : OwnSS w B s LL) (hk : Keeps (CS c) w w') (hc : c.block < B) : OwnSS w' B s LL := by
  obtain ⟨rs, h⟩ := h
  exact ⟨rs, h.keeps hk (fun g hg hs => by have := (h.out.lt g hg).1; unfold CS at hs; omega) (fun r hr g hg hs => by have := (h.lt hr hg).1; unfold CS at hs; omega)⟩
theorem c_l14Case {w : World} {a : Sl} {L : List Int} (ha : RowB w a L) (hL : L.length < 2^60) :
    Calls PP F.spec_l14Case #[a.v] w fun e w' => ∃ (s p : Sl) (LL : List (List Int)) (P : List Int), e = .returned (.tuple #[s.v, p.v]) ∧ RowSS w' s LL ∧ LL.length ≤ 4 ∧ tot LL ≤ 40 ∧ RowI w' p P ∧ P.length ≤ 9 ∧ Below w.heap.size w w' := by
  refine spec_l14Case.calls a ?_
  rw [spec_l14Case.E_s]
  refine (c_l1New ha hL).mono ?_
  rintro e w1 ⟨c, rfl, hc⟩
  refine ⟨some c, rfl, ?_⟩
  refine (c_l12Bent hc).mono ?_
  rintro e w2 ⟨s, LL, rfl, hs, hl, ht, hd2⟩
  refine ⟨s, rfl, ?_⟩
  refine (c_l1Below hd2.cur (n := 5) (by omega)).mono ?_
  rintro e w3 ⟨n, rfl, hn0, hn1, hc3, hk3⟩
  refine ⟨n, rfl, ?_⟩
  refine (c_ClassOf (hs w3 hk3) (by omega) (by omega) n).mono ?_
  rintro e w4 ⟨al, rfl, hal, hb4⟩
  refine ⟨al, rfl, ?_⟩
  obtain ⟨hc256, hcl⟩ := ClassOfV_small (LL := LL) (n := n) (by omega)
  have haln := hal.row.n
  have hc4 := hc3.grow hb4
  have hk24 : Keeps (CS c) w2 w4 := hk3.trans (keeps_below hb4 _)
  have bent : ∀ w5, Cur w w5 c → Keeps (CS c) w2 w5 → call1 .sl PP F.spec_l2Bent #[.pointer (some c)] w5 fun (ρ15 : Sl) ω16 =>
      (fun e w' => ∃ (s p : Sl) (LL : List (List Int)) (P : List Int), e = Ending.returned (.tuple #[s.v, p.v]) ∧ RowSS w' s LL ∧ LL.length ≤ 4 ∧ tot LL ≤ 40 ∧ RowI w' p P ∧ P.length ≤ 9 ∧ Below w.heap.size w w') (.returned (.tuple #[Sl.v s, Sl.v ρ15])) ω16 := by
    intro w5 hc5 hk5
    refine (c_l2Bent hc5).mono ?_
    rintro e w6 ⟨p, P, rfl, hp, hP, hc6, hk6⟩
    exact ⟨p, rfl, s, p, LL, P, rfl, hs w6 (hk5.trans hk6), hl, ht, hp.row, hP.1, hc6.below⟩
  refine bif_dec (fun h => ?_) (fun h => bent w4 hc4 hk24)
  refine (c_l1Once hc4 (n := 4) (by omega)).mono ?_
  rintro e w5 ⟨b, rfl, hc5, hk5⟩
  refine ⟨b, rfl, ?_⟩
  have hk25 := hk24.trans hk5
  refine bif_intro (fun _ => ?_) (fun _ => bent w5 hc5 hk25)
  refine drew_intro fun w6 hd6 => ?_
  have hb6 : Below w5.heap.size w5 w6 := hd6.below _
  have hc6 := hc5.grow hb6
  rw [haln]
  refine (c_l1Below hc6 (by omega)).mono ?_
  rintro e w7 ⟨x, rfl, hx0, hx1, hc7, hk7⟩
  refine ⟨x, rfl, ?_⟩
  have hal7 := ((hal.curs hk5 hc3.lt.2).grow hb6).curs hk7 hc3.lt.2
  have hlt : x.toNat < (ClassOfV LL n).length := by omega
  refine RowSS.get hal7.row hx0 (by omega) fun r hr => ?_
  rw [getD_SS hlt] at hr
  have := hcl _ (List.getElem_mem hlt)
  exact ⟨s, r, LL, _, rfl, hs w7 ((hk25.trans (keeps_below hb6 _)).trans hk7), hl, ht, hr, by omega, hc7.below⟩
end Go.Proofs.Yteplokddaebbeaa

/- FnChildren: the law. -/
namespace Go.Proofs.Yteplokddaebbeaa
open Go Go.RowKit
set_option maxRecDepth 100000

def Good (w0 : World) (e : Ending) (w' : World) : Prop := e = .returned (.bool true) ∧ Below w0.heap.size w0 w'
/-! ### The parent, plain -/
theorem lessN_count (L : List Int) (x : Int) : ∀ m, m ≤ L.length → lessN L x m = ((L.take m).countP fun y => decide (y < x) : Nat)
  | 0, _ => by simp [lessN]
  | m + 1, hm => by
    have e : L.take (m + 1) = L.take m ++ [L.getD m 0] := by rw [getD_lt (by omega)]; simp
    rw [lessN, lessN_count L x m (by omega), e, List.countP_append, List.countP_singleton]
    by_cases h : L.getD m 0 < x
    · rw [if_pos h, decide_eq_true h]; simp
    · rw [if_neg h, decide_eq_false h]; simp
theorem idn_count (k : Nat) {x : Int} (h1 : 1 ≤ x) (h2 : x ≤ k + 1) : ((idn k).countP fun y => decide (y < x) : Nat) = x - 1 := by
  induction k with
  | zero => have : x = 1 := by omega
            subst this; rfl
  | succ k ih =>
    rw [idn_succ, List.countP_append, List.countP_singleton]
    by_cases h : x = (k : Int) + 1 + 1
    · subst h
      have hall : (idn k).countP (fun y => decide (y < (k : Int) + 1 + 1)) = (idn k).length := by
        rw [List.countP_eq_length]
        intro y hy
        have := mem_idn.1 hy
        simp; omega
      rw [hall, idn_length, decide_eq_true (by omega)]; simp <;> omega
    · have := ih (by omega)
      rw [decide_eq_false (by omega)]; simp <;> omega
theorem patV_self {M : List Int} {k : Nat} (h : M.Perm (idn k)) : patV M = M := by
  have hl : M.length = k := by rw [h.length_eq, idn_length]
  apply List.ext_getElem
  · simp [patV, tab]
  · intro i h1 h2
    have hm := mem_idn.1 (h.mem_iff.1 (List.getElem_mem h2))
    have e : (patV M)[i] = 1 + lessN M (M.getD i 0) M.length := by simp [patV, tab]
    rw [e, lessN_count M _ _ (Nat.le_refl _), List.take_length, h.countP_eq, getD_lt h2, idn_count k hm.1 (by omega)]
    omega
/-- The place of the greatest, and what is left without it. -/
theorem without_max {L : List Int} (h : IsP L) (h0 : L ≠ []) : ∃ i : Nat, i < L.length ∧ idxW L L.length = i ∧ L.take i ++ L.drop (i + 1) = par L ∧ (par L).Perm (idn (L.length - 1)) := by
  have hlen : 0 < L.length := List.length_pos_iff.2 h0
  have hp := h.perm
  have hm : (L.length : Int) ∈ L := hp.mem_iff.2 (mem_idn.2 ⟨by omega, by omega⟩)
  have hi : L.findIdx (fun x => (L.length : Int) == x) < L.length := by
    rw [List.findIdx_lt_length]
    exact ⟨_, hm, by simp⟩
  have hx := List.findIdx_getElem (xs := L) (p := fun x => (L.length : Int) == x) (w := hi)
  generalize hg : L.findIdx (fun x => (L.length : Int) == x) = i at hi hx
  have hxi : L[i] = (L.length : Int) := (beq_iff_eq.1 hx).symm
  have hsplit : L = L.take i ++ (L.length : Int) :: L.drop (i + 1) := by
    conv => lhs; rw [← List.take_append_drop i L, List.drop_eq_getElem_cons hi, hxi]
  have hperm : ((L.length : Int) :: (L.take i ++ L.drop (i + 1))).Perm L := by
    have h1 := List.perm_middle (a := (L.length : Int)) (l₁ := L.take i) (l₂ := L.drop (i + 1))
    rw [← hsplit] at h1
    exact h1.symm
  obtain ⟨k, hk⟩ : ∃ k, L.length = k + 1 := ⟨L.length - 1, by omega⟩
  have hq : (L.take i ++ L.drop (i + 1)).Perm (idn k) := by
    have h1 := hperm.trans hp
    have e : idn L.length = idn k ++ [(k : Int) + 1] := by rw [hk, idn_succ]
    rw [e] at h1
    have h2 : (idn k ++ [(k : Int) + 1]).Perm ((L.length : Int) :: idn k) := by
      rw [show (L.length : Int) = (k : Int) + 1 by omega]
      exact List.perm_append_comm (l₂ := [(k : Int) + 1])
    exact List.Perm.cons_inv (h1.trans h2)
  have hpar : par L = L.take i ++ L.drop (i + 1) := by
    have hf : ∀ A : List Int, (∀ x ∈ A, x ∈ L.take i ++ L.drop (i + 1)) → A.filter (fun x => decide (x < (L.length : Int))) = A := fun A hA => by
      rw [List.filter_eq_self]
      intro x hx
      have := mem_idn.1 (hq.mem_iff.1 (hA x hx))
      simp; omega
    unfold par
    generalize hn : (L.length : Int) = n at hsplit hf
    conv => lhs; rw [hsplit]
    rw [List.filter_append, List.filter_cons, if_neg (by simp), hf _ (fun x hx => List.mem_append_left _ hx), hf _ (fun x hx => List.mem_append_right _ hx)]
  refine ⟨i, hi, by rw [idxW, hg, if_pos hi], hpar.symm, ?_⟩
  rw [hpar, hk, Nat.add_sub_cancel]; exact hq
open Classical in
noncomputable def ParentV (L : List Int) : List Int := if IsP L ∧ L ≠ [] then par L else []
open Classical in
noncomputable def ParentV1 (L : List Int) : Bool := decide (IsP L ∧ L ≠ [])
theorem ParentV_len (L : List Int) : (ParentV L).length < 2^38 := by
  unfold ParentV
  split
  · rename_i h
    have h1 : (par L).length ≤ L.length := List.length_filter_le _ _
    have := h.1.1
    omega
  · simp
theorem c_specParentOf {w : World} {a : Sl} {L : List Int} (ha : RowI w a L) (hL : L.length < 2^38) :
    Calls PP F.spec_ParentOf #[a.v] w fun e w' => ∃ s : Sl, e = .returned (.tuple #[s.v, .bool (ParentV1 L)]) ∧ RowI w' s (ParentV L) ∧ Below w.heap.size w w' := by
  classical
  have han : a.n = L.length := by have := ha.n; simpa using this
  refine spec_ParentOf.calls a ?_
  rw [spec_ParentOf.E_s]
  refine Quiet.call1 (s := .bool) (c_specIsPerm ha hL) ?_
  intro w1 hd1
  have hb1 := hd1.below w.heap.size
  refine bif_intro (fun h => ?_) (fun h => ?_)
  · have h : ¬ IsP L := by simpa using h
    refine lit0 oneInt (B := w.heap.size) hb1.size ?_
    intro o w2 ho hg2 _
    exact ⟨o, by simp [ParentV1, h], by rw [ParentV, if_neg (fun hh => h hh.1)]; exact ho.row, hb1.grown hg2 hb1.size (by simp)⟩
  have h : IsP L := by simpa using h
  rw [han]
  refine bif_intro (fun h0 => ?_) (fun h0 => ?_)
  · have h0 : L = [] := List.eq_nil_of_length_eq_zero (by simpa using h0)
    refine lit0 oneInt (B := w.heap.size) hb1.size ?_
    intro o w2 ho hg2 _
    exact ⟨o, by simp [ParentV1, h0], by rw [ParentV, if_neg (fun hh => hh.2 h0)]; exact ho.row, hb1.grown hg2 hb1.size (by simp)⟩
  have h0 : L ≠ [] := fun e => by subst e; simp at h0
  refine lit0 oneInt (B := w.heap.size) hb1.size ?_
  intro o w2 ho hg2 _
  have hb2 := hb1.grown hg2 hb1.size (fun g hg => by cases hg)
  refine spec_ParentOf.L5_rule _ _ _ _ _ (I := fun o k w' => 0 ≤ k ∧ k ≤ L.length ∧ Below w.heap.size w w' ∧ OwnI w' w.heap.size o ((L.take k.toNat).filter fun x => decide (x < L.length))) (μ := fun _ k _ => (L.length - k).toNat)
    ⟨by omega, by omega, hb2, by simpa [OwnI] using ho⟩ ?_
  rintro o k w3 ⟨hk0, hk, hb, ho⟩
  have h8 := h.1
  rw [spec_ParentOf.B5_s, han]
  refine bif_dec (fun h3 => ?_) (fun h3 => ?_)
  · have ek : (k + 1).toNat = k.toNat + 1 := by omega
    have e : L.take (k.toNat + 1) = L.take k.toNat ++ [L.getD k.toNat 0] := by rw [getD_lt (by omega)]; simp
    refine RowI.get (ha.grow hb) hk0 (by omega) ?_
    refine bif_dec (fun h4 => ?_) (fun h4 => ?_)
    · refine RowI.get (ha.grow hb) hk0 (by omega) ?_
      have hfl := List.length_filter_le (fun x => decide (x < (L.length : Int))) (L.take k.toNat)
      rw [List.length_take] at hfl
      refine append_int ho hb.size (by omega) ?_
      intro o' w4 ho4 hg4 _
      refine ⟨o', k + 1, by rw [w64_succ hk0 (by omega)], ⟨by omega, by omega, hb.grown hg4 hb.size (fun g hg => (ho.lt g hg).1), ?_⟩, by omega⟩
      rw [ek, e, List.filter_append, List.filter_cons, if_pos (by simpa using h4)]
      exact ho4
    · refine ⟨o, k + 1, by rw [w64_succ hk0 (by omega)], ⟨by omega, by omega, hb, ?_⟩, by omega⟩
      rw [ek, e, List.filter_append, List.filter_cons, if_neg (by simpa using h4)]
      simpa using ho
  · rw [spec_ParentOf.A5_0_s]
    rw [show k.toNat = L.length by omega, List.take_length] at ho
    exact ⟨o, by simp [ParentV1, h, h0], by rw [ParentV, if_pos ⟨h, h0⟩]; exact ho.row, hb⟩
theorem c_implParentOf {w : World} {a : Sl} {L : List Int} (ha : RowI w a L) (hL : L.length < 2^38) :
    Calls PP F.impl_ParentOf #[a.v] w fun e w' => ∃ s : Sl, e = .returned (.tuple #[s.v, .bool (ParentV1 L)]) ∧ OwnI w' w.heap.size s (ParentV L) ∧ Below w.heap.size w w' := by
  classical
  have han : a.n = L.length := by have := ha.n; simpa using this
  refine impl_ParentOf.calls a ?_
  rw [impl_ParentOf.E_s]
  refine (c_implIsPerm ha hL).mono ?_
  rintro e w1 ⟨rfl, hb1⟩
  refine ⟨_, rfl, ?_⟩
  refine bif_intro (fun h => ?_) (fun h => ?_)
  · have h : ¬ IsP L := by simpa using h
    exact ⟨Sl.nil, by simp [ParentV1, h], by rw [ParentV, if_neg (fun hh => h hh.1)]; exact Own.nil _ _ _, hb1⟩
  have h : IsP L := by simpa using h
  rw [han]
  refine bif_intro (fun h0 => ?_) (fun h0 => ?_)
  · have h0 : L = [] := List.eq_nil_of_length_eq_zero (by simpa using h0)
    exact ⟨Sl.nil, by simp [ParentV1, h0], by rw [ParentV, if_neg (fun hh => hh.2 h0)]; exact Own.nil _ _ _, hb1⟩
  have h0 : L ≠ [] := fun e => by subst e; simp at h0
  have h8 := h.1
  obtain ⟨i, hi, e1, e2, e3⟩ := without_max h h0
  refine Quiet.call1 (s := .int .i64) (c_Index (ha.grow hb1) hL _) ?_
  intro w2 hd2
  have g2 : Below w1.heap.size w1 w2 := hd2.below _
  have hb2 := hb1.trans (g2.mono hb1.size)
  rw [e1]
  show call1 _ _ F.impl_without _ _ _
  refine impl_without.calls a i ?_
  rw [impl_without.E_s]
  refine (c_Clone (ha.grow hb2) hL).mono ?_
  rintro e w3 ⟨s, rfl, hs, g3⟩
  refine ⟨s, rfl, ?_⟩
  have hb3 := hb2.trans (g3.mono hb2.size)
  rw [w64_id (n := (i : Int) + 1) (by omega) (by omega)]
  refine (c_Delete hs g3.size hL (i := (i : Int)) (by omega) (by omega)).mono ?_
  rintro e w4 ⟨t, rfl, ht, hg4, _⟩
  refine ⟨t, rfl, ?_⟩
  have hb4 := hb3.grown hg4 hb3.size (fun g hg => Nat.le_trans hb2.size (hs.lt g hg).1)
  rw [Int.toNat_natCast, e2] at ht
  have hpl : (par L).length ≤ L.length := List.length_filter_le _ _
  refine (c_pattern ht.row (by omega)).mono ?_
  rintro e w5 ⟨u, rfl, hu, g5⟩
  rw [patV_self e3] at hu
  exact ⟨u, rfl, u, rfl, u, by simp [ParentV1, h, h0], by rw [ParentV, if_pos ⟨h, h0⟩]; exact hu.mono hb4.size, hb4.trans (g5.mono hb4.size)⟩

/-! ### The draws -/
theorem c_DrawChildrenOf {w : World} {a : Sl} {L : List Int} (ha : RowB w a L) (hL : L.length < 2^60) :
    Calls PP F.spec_DrawChildrenOf #[a.v] w fun e w' => ∃ (s p : Sl) (LL : List (List Int)) (P : List Int), e = .returned (.tuple #[s.v, p.v]) ∧ RowSS w' s LL ∧ LL.length ≤ 4 ∧ tot LL ≤ 40 ∧ RowI w' p P ∧ P.length ≤ 9 ∧ Below w.heap.size w w' := by
  refine spec_DrawChildrenOf.calls a ?_
  rw [spec_DrawChildrenOf.E_s]
  refine (c_l14Case ha hL).mono ?_
  rintro e w1 ⟨s, p, LL, P, rfl, h⟩
  exact ⟨s, p, rfl, s, p, LL, P, rfl, h⟩
theorem c_DrawLevelSizes {w : World} {a : Sl} {L : List Int} (ha : RowB w a L) (hL : L.length < 2^60) :
    Calls PP F.spec_DrawLevelSizes #[a.v] w fun e w' => ∃ (s : Sl) (LL : List (List Int)) (n : Int), e = .returned (.tuple #[s.v, vI n]) ∧ RowSS w' s LL ∧ LL.length ≤ 4 ∧ tot LL ≤ 40 ∧ -1 ≤ n ∧ n ≤ 7 ∧ Below w.heap.size w w' := by
  refine spec_DrawLevelSizes.calls a ?_
  rw [spec_DrawLevelSizes.E_s]
  refine (c_l12Case ha hL).mono ?_
  rintro e w1 ⟨s, LL, n, rfl, h⟩
  exact ⟨s, n, rfl, s, LL, n, rfl, h⟩
theorem c_DrawParentOf {w : World} {a : Sl} {L : List Int} (ha : RowB w a L) (hL : L.length < 2^60) :
    Calls PP F.spec_DrawParentOf #[a.v] w fun e w' => ∃ (s : Sl) (M : List Int), e = .returned s.v ∧ RowI w' s M ∧ M.length < 2^38 ∧ Below w.heap.size w w' := by
  refine spec_DrawParentOf.calls a ?_
  rw [spec_DrawParentOf.E_s]
  exact c_bentOf ha hL fun s M w' hs hM hb => ⟨s, M, rfl, hs.row, by have := hM.1; omega, hb⟩
theorem c_DrawChildAt {w : World} {a : Sl} {L : List Int} (ha : RowB w a L) (hL : L.length < 2^60) :
    Calls PP F.spec_DrawChildAt #[a.v] w fun e w' => ∃ (s : Sl) (M : List Int) (k : Int), e = .returned (.tuple #[s.v, vI k]) ∧ RowI w' s M ∧ M.length < 2^38 ∧ Below w.heap.size w w' := by
  refine spec_DrawChildAt.calls a ?_
  rw [spec_DrawChildAt.E_s]
  refine (c_l1New ha hL).mono ?_
  rintro e w1 ⟨c, rfl, hc⟩
  refine ⟨some c, rfl, ?_⟩
  refine (c_l2Bent hc).mono ?_
  rintro e w2 ⟨s, M, rfl, hs, hM, hc2, hk2⟩
  refine ⟨s, rfl, ?_⟩
  have hsn : s.n = M.length := by have := hs.n; simpa using this
  have h9 := hM.1
  refine Pure.pcall1 (s := .int .i64) (c_l1Max _ _) ?_
  rw [hsn, w64_id (n := (M.length : Int) + 2) (by omega) (by omega)]
  refine (c_l1Below hc2 (by omega)).mono ?_
  rintro e w3 ⟨x, rfl, hx0, hx1, hc3, hk3⟩
  refine ⟨x, rfl, ?_⟩
  refine (c_l1Once hc3 (n := 10) (by omega)).mono ?_
  rintro e w4 ⟨b, rfl, hc4, hk4⟩
  refine ⟨b, rfl, ?_⟩
  refine Pure.pcall1 (s := .int .i64) (c_l1Bit b) ?_
  exact ⟨s, M, _, rfl, (Own.curs (Own.curs hs hk3 hc.lt.2) hk4 hc.lt.2).row, by omega, hc4.below⟩

/-! ### The tail -/
theorem parent_of {P c : List Int} (h : IsP c) (h0 : c ≠ []) (hp : par c = P) : ParentV c = P ∧ ParentV1 c = true := by
  classical
  exact ⟨by rw [ParentV, if_pos ⟨h, h0⟩, hp], by simp [ParentV1, h, h0]⟩
theorem children_facts {LL : List (List Int)} {P c : List Int} (h : c ∈ ChildrenOfV LL P) : ParentV c = P ∧ ParentV1 c = true ∧ InClassV LL c = true ∧ c.length ≤ 8 := by
  unfold ChildrenOfV at h
  split at h
  · rename_i hh
    obtain ⟨h1, h2, h3, h4⟩ := child_class hh.1 hh.2 h
    obtain ⟨p1, p2⟩ := parent_of h4 h3 h2
    exact ⟨p1, p2, by simp [InClassV, h1], h4.1⟩
  · cases h
theorem childAt_facts {Q : List Int} {i : Int} (h : ChildAtV1 Q i = true) : ParentV (ChildAtV Q i) = Q ∧ ParentV1 (ChildAtV Q i) = true := by
  have h : ChildOk Q i := by simpa [ChildAtV1] using h
  have e : ChildAtV Q i = childW Q i.toNat := by rw [ChildAtV, if_pos h]
  obtain ⟨h1, h2, h3, h4⟩ := h
  rw [e]
  have hp := childW_isP h1 (by omega) (i := i.toNat) (by omega)
  exact parent_of hp (fun e => by have := childW_length (L := Q) (i := i.toNat) (by omega); rw [e] at this; simp at this) (par_child h1.perm (by omega))
theorem levels_counts (LL : List (List Int)) (n : Int) : LevelSizesV LL n = ClassCountsV LL n := by
  unfold LevelSizesV ClassCountsV
  by_cases h : CntOk LL n
  · rw [if_pos h, if_pos h, levS_cls h.1]; rfl
  · rw [if_neg h, if_neg h]
theorem lawJ25 {w0 w : World} {l p c b v : Sl} {LL BB : List (List Int)} {P : List Int} (hb : Below w0.heap.size w0 w) (hl : RowSS w l LL) (hl1 : LL.length ≤ 4) (hl2 : tot LL ≤ 40) (hp : RowI w p P) (hpl : P.length ≤ 9)
    (hc : RowSS w c (ChildrenOfV LL P)) (hB : RowSS w b BB) (hB1 : BB.length ≤ 4) (hB2 : tot BB ≤ 40) {n : Int} (hv : RowI w v (LevelSizesV BB n)) : laws_FnChildren.J25 std l p c b n v w (Good w0) := by
  have hcn := hc.n
  rw [laws_FnChildren.J25_s]
  refine (c_implActiveSites hl (by omega) (by omega) hp (by omega)).mono ?_
  rintro e w_1 ⟨s, rfl, hs, g1⟩
  refine ⟨s, rfl, ?_⟩
  have hb := hb.trans (g1.mono hb.size)
  have hB := hB.grow g1
  have hv := hv.grow g1
  have hs := hs.row
  have hsn : s.n = (ActiveSitesV LL P).length := by have := hs.n; simpa using this
  refine bif_t (by
    rw [hcn, hsn]
    have : (ChildrenOfV LL P).length = (ActiveSitesV LL P).length := by
      unfold ChildrenOfV ActiveSitesV
      split
      · simp [childrenV]
      · rfl
    rw [this]; simp) ?_
  refine (c_specClassCounts hB (by omega) (by omega) n).mono ?_
  rintro e w_2 ⟨t, rfl, ht, g2⟩
  refine ⟨t, rfl, ?_⟩
  have hb := hb.trans (g2.mono hb.size)
  have hB := hB.grow g2
  have hv := hv.grow g2
  have hs := hs.grow g2
  have ht := ht.row
  have hll := LevelSizesV_len BB n
  refine Quiet.call1 (s := .bool) (c_sameInts hv ht (by omega)) ?_
  intro w_3 g3
  replace g3 : Below w_2.heap.size w_2 w_3 := g3.below _
  have hb := hb.trans (g3.mono hb.size)
  have hB := hB.grow g3
  have hv := hv.grow g3
  have hs := hs.grow g3
  have ht := ht.grow g3
  exact ⟨by rw [decide_eq_true (levels_counts BB n)], hb⟩
theorem lawJ15 {w0 w : World} {l p c q x b v : Sl} {LL BB : List (List Int)} {P Q : List Int} {i : Int} (hb0 : Below w0.heap.size w0 w) (hl0 : RowSS w l LL) (hl1 : LL.length ≤ 4) (hl2 : tot LL ≤ 40) (hp0 : RowI w p P) (hpl : P.length ≤ 9)
    (hc0 : RowSS w c (ChildrenOfV LL P)) (hq0 : RowI w q Q) (hql : Q.length < 2^38) (hx0 : RowI w x (ChildAtV Q i)) (hB0 : RowSS w b BB) (hB1 : BB.length ≤ 4) (hB2 : tot BB ≤ 40) {n : Int} (hv0 : RowI w v (LevelSizesV BB n)) :
    laws_FnChildren.J15 std l p c q x (ChildAtV1 Q i) b n v w (Good w0) := by
  have hcn := hc0.n
  have hcl := (ChildrenOfV_len LL P).1
  rw [laws_FnChildren.J15_s]
  refine laws_FnChildren.L16_rule _ _ _ _ _ _ _ _ _ _ _ _ (I := fun k w' => 0 ≤ k ∧ k ≤ (ChildrenOfV LL P).length ∧ Below w.heap.size w w') (μ := fun k _ => ((ChildrenOfV LL P).length - k).toNat) ⟨by omega, by omega, Below.refl _ _⟩ ?_
  rintro k w1 ⟨hk0, hk, hb1⟩
  have hl := hl0.grow hb1
  have hp := hp0.grow hb1
  have hc := hc0.grow hb1
  have hq := hq0.grow hb1
  have hx := hx0.grow hb1
  have hB := hB0.grow hb1
  have hv := hv0.grow hb1
  rw [laws_FnChildren.B16_s, hcn]
  refine bif_dec (fun h3 => ?_) (fun h3 => ?_)
  · have hlt : k.toNat < (ChildrenOfV LL P).length := by omega
    obtain ⟨f1, f2, f3, f4⟩ := children_facts (List.getElem_mem hlt)
    refine RowSS.get hc hk0 (by omega) fun r hr => ?_
    rw [getD_SS hlt] at hr
    refine (c_implParentOf hr (by omega)).mono ?_
    rintro e w2 ⟨s, rfl, hs, g2⟩
    refine ⟨s, _, rfl, ?_⟩
    have hb2 := hb1.trans (g2.mono hb1.size)
    rw [f1] at hs
    refine bif_f (by simp [f2]) ?_
    refine Quiet.call1 (s := .bool) (c_sameInts hs.row (hp.grow g2) (by omega)) ?_
    intro w3 d3
    have g3 : Below w2.heap.size w2 w3 := d3.below _
    have hb3 := hb2.trans (g3.mono hb2.size)
    refine bif_f (by simp) ?_
    refine RowSS.get ((hc.grow g2).grow g3) hk0 (by omega) fun r2 hr2 => ?_
    rw [getD_SS hlt] at hr2
    refine (c_specInClass ((hl.grow g2).grow g3) (by omega) (by omega) hr2 (by omega)).mono ?_
    rintro e w4 ⟨rfl, g4⟩
    refine ⟨_, rfl, ?_⟩
    show laws_FnChildren.J20 std _ _ _ _ _ _ _ _ _ _ _ _ _ _
    rw [laws_FnChildren.J20_s]
    refine bif_f (by rw [f3]; rfl) ?_
    rw [laws_FnChildren.J17_s]
    exact ⟨k + 1, by rw [w64_succ hk0 (by omega)], ⟨by omega, by omega, hb3.trans (g4.mono hb3.size)⟩, by omega⟩
  · rw [laws_FnChildren.A16_0_s]
    have hb := hb0.trans (hb1.mono hb0.size)
    refine bif_intro (fun h4 => ?_) (fun h4 => lawJ25 hb hl hl1 hl2 hp hpl hc hB hB1 hB2 hv)
    obtain ⟨f1, f2⟩ := childAt_facts h4
    refine (c_implParentOf hx (ChildAtV_len Q i)).mono ?_
    rintro e w2 ⟨s, rfl, hs, g2⟩
    refine ⟨s, _, rfl, ?_⟩
    have hb2 := hb.trans (g2.mono hb.size)
    rw [f1] at hs
    refine bif_f (by simp [f2]) ?_
    refine Quiet.call1 (s := .bool) (c_sameInts hs.row (hq.grow g2) (by omega)) ?_
    intro w3 d3
    have g3 : Below w2.heap.size w2 w3 := d3.below _
    rw [laws_FnChildren.J24_s]
    refine bif_f (by simp) ?_
    exact lawJ25 (hb2.trans (g3.mono hb2.size)) ((hl.grow g2).grow g3) hl1 hl2 ((hp.grow g2).grow g3) hpl ((hc.grow g2).grow g3) ((hB.grow g2).grow g3) hB1 hB2 ((hv.grow g2).grow g3)
set_option maxHeartbeats 2000000 in
theorem lawC_FnChildren (a : Sl) (L : List Int) (w : World) (ha : RowB w a L) (_ : L.length ≤ maxLen) :
    Calls PP F.laws_FnChildren #[a.v] w fun e w' => e = .returned (.bool true) ∧ Below w.heap.size w w' := by
  refine laws_FnChildren.calls a ?_
  rw [laws_FnChildren.E_s]
  have hb : Below w.heap.size w w := Below.refl _ _
  refine Pure.pcall1 (s := .bool) (c_big a) ?_
  refine bif_dec (fun _ => ⟨rfl, hb⟩) (fun hbig => ?_)
  have hL : L.length < 2^60 := by have := ha.n; simp at this; omega
  refine (c_DrawChildrenOf ha hL).mono ?_
  rintro e w_4 ⟨l, p, LL, P, rfl, hl, hl1, hl2, hp, hpl, g4⟩
  refine ⟨l, p, rfl, ?_⟩
  have hb := hb.trans (g4.mono hb.size)
  have ha := ha.grow g4
  refine (c_implChildrenOf hl (by omega) (by omega) hp (by omega)).mono ?_
  rintro e w_5 ⟨c, rfl, hc, g5⟩
  refine ⟨c, rfl, ?_⟩
  have hb := hb.trans (g5.mono hb.size)
  have ha := ha.grow g5
  have hl := hl.grow g5
  have hp := hp.grow g5
  have hc := hc.row
  refine (c_DrawChildAt ha hL).mono ?_
  rintro e w_6 ⟨q, Q, i, rfl, hq, hql, g6⟩
  refine ⟨q, i, rfl, ?_⟩
  have hb := hb.trans (g6.mono hb.size)
  have ha := ha.grow g6
  have hl := hl.grow g6
  have hp := hp.grow g6
  have hc := hc.grow g6
  refine (c_implChildAt hq hql i).mono ?_
  rintro e w_7 ⟨x, rfl, hx, g7⟩
  refine ⟨x, _, rfl, ?_⟩
  have hb := hb.trans (g7.mono hb.size)
  have ha := ha.grow g7
  have hl := hl.grow g7
  have hp := hp.grow g7
  have hc := hc.grow g7
  have hq := hq.grow g7
  have hx := hx.row
  refine (c_specChildAt hq hql i).mono ?_
  rintro e w_8 ⟨x2, rfl, hx2, g8⟩
  refine ⟨x2, _, rfl, ?_⟩
  have hb := hb.trans (g8.mono hb.size)
  have ha := ha.grow g8
  have hl := hl.grow g8
  have hp := hp.grow g8
  have hc := hc.grow g8
  have hq := hq.grow g8
  have hx := hx.grow g8
  refine (c_DrawParentOf ha hL).mono ?_
  rintro e w_9 ⟨r, R, rfl, hr, hrl, g9⟩
  refine ⟨r, rfl, ?_⟩
  have hb := hb.trans (g9.mono hb.size)
  have ha := ha.grow g9
  have hl := hl.grow g9
  have hp := hp.grow g9
  have hc := hc.grow g9
  have hq := hq.grow g9
  have hx := hx.grow g9
  have hx2 := hx2.grow g9
  refine (c_implParentOf hr hrl).mono ?_
  rintro e w_10 ⟨y, rfl, hy, g10⟩
  refine ⟨y, _, rfl, ?_⟩
  have hb := hb.trans (g10.mono hb.size)
  have ha := ha.grow g10
  have hl := hl.grow g10
  have hp := hp.grow g10
  have hc := hc.grow g10
  have hq := hq.grow g10
  have hx := hx.grow g10
  have hx2 := hx2.grow g10
  have hr := hr.grow g10
  have hy := hy.row
  refine (c_specParentOf hr hrl).mono ?_
  rintro e w_11 ⟨y2, rfl, hy2, g11⟩
  refine ⟨y2, _, rfl, ?_⟩
  have hb := hb.trans (g11.mono hb.size)
  have ha := ha.grow g11
  have hl := hl.grow g11
  have hp := hp.grow g11
  have hc := hc.grow g11
  have hq := hq.grow g11
  have hx := hx.grow g11
  have hx2 := hx2.grow g11
  have hr := hr.grow g11
  have hy := hy.grow g11
  refine (c_DrawLevelSizes ha hL).mono ?_
  rintro e w_12 ⟨b, BB, n, rfl, hB, hB1, hB2, hn1, hn2, g12⟩
  refine ⟨b, n, rfl, ?_⟩
  have hb := hb.trans (g12.mono hb.size)
  have ha := ha.grow g12
  have hl := hl.grow g12
  have hp := hp.grow g12
  have hc := hc.grow g12
  have hq := hq.grow g12
  have hx := hx.grow g12
  have hx2 := hx2.grow g12
  have hy := hy.grow g12
  have hy2 := hy2.grow g12
  refine (c_implLevelSizes hB (by omega) (by omega) n).mono ?_
  rintro e w_13 ⟨v, rfl, hv, g13⟩
  refine ⟨v, rfl, ?_⟩
  have hb := hb.trans (g13.mono hb.size)
  have hl := hl.grow g13
  have hp := hp.grow g13
  have hc := hc.grow g13
  have hq := hq.grow g13
  have hx := hx.grow g13
  have hx2 := hx2.grow g13
  have hy := hy.grow g13
  have hy2 := hy2.grow g13
  have hB := hB.grow g13
  have hv := hv.row
  obtain ⟨cl1, cl2⟩ := ChildrenOfV_len LL P
  have xl := ChildAtV_len Q i
  have yl := ParentV_len R
  have vl := LevelSizesV_len BB n
  have al := ActiveSitesV_len LL P
  refine (c_specChildrenOf hl (by omega) (by omega) hp (by omega)).mono ?_
  rintro e w_14 ⟨c2, rfl, hc2, g14⟩
  refine ⟨c2, rfl, ?_⟩
  have hb := hb.trans (g14.mono hb.size)
  have hl := hl.grow g14
  have hp := hp.grow g14
  have hc := hc.grow g14
  have hq := hq.grow g14
  have hx := hx.grow g14
  have hx2 := hx2.grow g14
  have hy := hy.grow g14
  have hy2 := hy2.grow g14
  have hB := hB.grow g14
  have hv := hv.grow g14
  refine Quiet.call1 (s := .bool) (c_sameLists hc hc2 (by omega) (by omega)) ?_
  intro w_15 g15
  replace g15 : Below w_14.heap.size w_14 w_15 := g15.below _
  have hb := hb.trans (g15.mono hb.size)
  have hl := hl.grow g15
  have hp := hp.grow g15
  have hc := hc.grow g15
  have hq := hq.grow g15
  have hx := hx.grow g15
  have hx2 := hx2.grow g15
  have hy := hy.grow g15
  have hy2 := hy2.grow g15
  have hB := hB.grow g15
  have hv := hv.grow g15
  have hc2 := hc2.grow g15
  refine bif_f (by simp) ?_
  refine bif_f (by simp) ?_
  refine Quiet.call1 (s := .bool) (c_sameInts hx hx2 (by omega)) ?_
  intro w_16 g16
  replace g16 : Below w_15.heap.size w_15 w_16 := g16.below _
  have hb := hb.trans (g16.mono hb.size)
  have hl := hl.grow g16
  have hp := hp.grow g16
  have hc := hc.grow g16
  have hq := hq.grow g16
  have hx := hx.grow g16
  have hx2 := hx2.grow g16
  have hy := hy.grow g16
  have hy2 := hy2.grow g16
  have hB := hB.grow g16
  have hv := hv.grow g16
  refine bif_f (by simp) ?_
  refine bif_f (by simp) ?_
  refine Quiet.call1 (s := .bool) (c_sameInts hy hy2 (by omega)) ?_
  intro w_17 g17
  replace g17 : Below w_16.heap.size w_16 w_17 := g17.below _
  have hb := hb.trans (g17.mono hb.size)
  have hl := hl.grow g17
  have hp := hp.grow g17
  have hc := hc.grow g17
  have hq := hq.grow g17
  have hx := hx.grow g17
  have hy := hy.grow g17
  have hy2 := hy2.grow g17
  have hB := hB.grow g17
  have hv := hv.grow g17
  refine bif_f (by simp) ?_
  refine (c_specLevelSizes hB (by omega) (by omega) n).mono ?_
  rintro e w_18 ⟨v2, rfl, hv2, g18⟩
  refine ⟨v2, rfl, ?_⟩
  have hb := hb.trans (g18.mono hb.size)
  have hl := hl.grow g18
  have hp := hp.grow g18
  have hc := hc.grow g18
  have hq := hq.grow g18
  have hx := hx.grow g18
  have hB := hB.grow g18
  have hv := hv.grow g18
  refine Quiet.call1 (s := .bool) (c_sameInts hv hv2 (by omega)) ?_
  intro w_19 g19
  replace g19 : Below w_18.heap.size w_18 w_19 := g19.below _
  have hb := hb.trans (g19.mono hb.size)
  have hl := hl.grow g19
  have hp := hp.grow g19
  have hc := hc.grow g19
  have hq := hq.grow g19
  have hx := hx.grow g19
  have hB := hB.grow g19
  have hv := hv.grow g19
  have hv2 := hv2.grow g19
  refine bif_f (by simp) ?_
  refine (c_implActiveSites hl (by omega) (by omega) hp (by omega)).mono ?_
  rintro e w_20 ⟨s, rfl, hs, g20⟩
  refine ⟨s, rfl, ?_⟩
  have hb := hb.trans (g20.mono hb.size)
  have hl := hl.grow g20
  have hp := hp.grow g20
  have hc := hc.grow g20
  have hq := hq.grow g20
  have hx := hx.grow g20
  have hB := hB.grow g20
  have hv := hv.grow g20
  have hs := hs.row
  refine (c_specActiveSites hl (by omega) (by omega) hp (by omega)).mono ?_
  rintro e w_21 ⟨s2, rfl, hs2, g21⟩
  refine ⟨s2, rfl, ?_⟩
  have hb := hb.trans (g21.mono hb.size)
  have hl := hl.grow g21
  have hp := hp.grow g21
  have hc := hc.grow g21
  have hq := hq.grow g21
  have hx := hx.grow g21
  have hB := hB.grow g21
  have hv := hv.grow g21
  have hs := hs.grow g21
  refine Quiet.call1 (s := .bool) (c_sameInts hs hs2 (by omega)) ?_
  intro w_22 g22
  replace g22 : Below w_21.heap.size w_21 w_22 := g22.below _
  have hb := hb.trans (g22.mono hb.size)
  have hl := hl.grow g22
  have hp := hp.grow g22
  have hc := hc.grow g22
  have hq := hq.grow g22
  have hx := hx.grow g22
  have hB := hB.grow g22
  have hv := hv.grow g22
  have hs := hs.grow g22
  have hs2 := hs2.grow g22
  refine bif_f (by simp) ?_
  refine (c_implLeafCount hB (by omega) (by omega) n).mono ?_
  rintro e w_23 ⟨rfl, g23⟩
  refine ⟨_, rfl, ?_⟩
  have hb := hb.trans (g23.mono hb.size)
  have hl := hl.grow g23
  have hp := hp.grow g23
  have hc := hc.grow g23
  have hq := hq.grow g23
  have hx := hx.grow g23
  have hB := hB.grow g23
  have hv := hv.grow g23
  refine (c_specLeafCount hB (by omega) (by omega) n).mono ?_
  rintro e w_24 ⟨rfl, g24⟩
  refine ⟨_, rfl, ?_⟩
  have hb := hb.trans (g24.mono hb.size)
  have hl := hl.grow g24
  have hp := hp.grow g24
  have hc := hc.grow g24
  have hq := hq.grow g24
  have hx := hx.grow g24
  have hB := hB.grow g24
  have hv := hv.grow g24
  show laws_FnChildren.J14 std _ _ _ _ _ _ _ _ _ _ _ _
  rw [laws_FnChildren.J14_s]
  refine bif_f (by simp) ?_
  exact lawJ15 hb hl hl1 hl2 hp hpl hc hq hql hx hB hB1 hB2 hv
end Go.Proofs.Yteplokddaebbeaa
