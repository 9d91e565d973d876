/- Active sites and children: what the laws of labels want. -/
import Derived.Test.YtjojajnkofgfpaaCodeSi
import Derived.Test.YtjojajnkofgfpaaClass
import Derived.Test.YtjojajnkofgfpaaChi
namespace Go.Proofs.Ytjojajnkofgfpaa
open Go Go.RowKit
set_option maxRecDepth 100000

def sitesT (LL : List (List Int)) (P : List Int) : Nat → List Int
  | 0 => []
  | k + 1 => if avoidsV LL (childW P k) = true then sitesT LL P k ++ [(k : Int)] else sitesT LL P k
def sitesV (LL : List (List Int)) (P : List Int) : List Int := sitesT LL P (P.length + 1)
theorem sitesT_len (LL : List (List Int)) (P : List Int) : ∀ k, (sitesT LL P k).length ≤ k
  | 0 => by simp [sitesT]
  | k + 1 => by
    have := sitesT_len LL P k
    rw [sitesT]
    split
    · simp; omega
    · omega
theorem sitesT_mem {LL : List (List Int)} {P : List Int} : ∀ {k : Nat} {x : Int}, x ∈ sitesT LL P k → 0 ≤ x ∧ x < k ∧ avoidsV LL (childW P x.toNat) = true
  | 0, x, h => by simp [sitesT] at h
  | k + 1, x, h => by
    rw [sitesT] at h
    split at h
    · rename_i h2
      rcases List.mem_append.1 h with h | h
      · obtain ⟨a, b, c⟩ := sitesT_mem h; exact ⟨a, by omega, c⟩
      · simp at h; subst h; exact ⟨by omega, by omega, by simpa using h2⟩
    · obtain ⟨a, b, c⟩ := sitesT_mem h; exact ⟨a, by omega, c⟩
def childrenV (LL : List (List Int)) (P : List Int) : List (List Int) := (sitesV LL P).map fun i => childW P i.toNat
theorem childW_isP {P : List Int} (h : IsP P) (h7 : P.length ≤ 7) {i : Nat} (hi : i ≤ P.length) : IsP (childW P i) := by
  refine isP_of (n := P.length + 1) ?_ (by omega)
  rw [idn_succ, childW]
  have h1 : (P.take i ++ ((P.length : Int) + 1) :: P.drop i).Perm (((P.length : Int) + 1) :: (P.take i ++ P.drop i)) := List.perm_middle
  rw [List.take_append_drop] at h1
  exact h1.trans ((List.Perm.cons _ h.perm).trans (List.perm_append_singleton _ _).symm)

theorem c_active {w : World} {l p : Sl} {LL : List (List Int)} {P : List Int} (hl : RowSS w l LL) (hB : BasisOk LL) (hp : RowI w p P) (hP : P.length ≤ 7) :
    Calls PP F.impl_active #[l.v, p.v] w fun e w' => ∃ s : Sl, e = .returned s.v ∧ OwnI w' w.heap.size s (sitesV LL P) ∧ Below w.heap.size w w' := by
  have hpn : p.n = P.length := by have := hp.n; simpa using this
  have hl8 := hB.1
  refine impl_active.calls l p ?_
  rw [impl_active.E_s, hpn, w64_succ (n := (P.length : Int)) (by omega) (by omega)]
  refine lit0 oneInt (B := w.heap.size) (Nat.le_refl _) ?_
  intro o0 w1 ho0 hg1 _
  refine impl_active.L3_rule _ _ _ _ _ _ _ (I := fun o k w' => 0 ≤ k ∧ k ≤ P.length + 1 ∧ OwnI w' w.heap.size o (sitesT LL P k.toNat) ∧ Below w.heap.size w w') (μ := fun _ k _ => (P.length + 1 - k).toNat) ⟨by omega, by omega, ho0, below_of_grow hg1⟩ ?_
  rintro o k w' ⟨h0, hk, ho, hb⟩
  rw [impl_active.B3_s]
  have hsl := sitesT_len LL P k.toNat
  refine bif_dec (fun h3 => ?_) (fun h3 => ?_)
  · obtain ⟨m, rfl⟩ : ∃ m : Nat, k = m := ⟨k.toNat, by omega⟩
    rw [Int.toNat_natCast] at ho hsl
    refine (c_child (hp.grow hb) (by omega) (i := m) (by omega)).mono ?_
    rintro e w2 ⟨c, rfl, hc, hb2⟩
    refine ⟨c, rfl, ?_⟩
    have hb12 := hb.trans (hb2.mono hb.size)
    refine (c_avoids (hl.grow hb12) hc.row (by rw [childW_length (by omega)]; omega) (by omega) (fun q hq => by have := hB.len q hq; omega)).mono ?_
    rintro e w3 ⟨rfl, hb3⟩
    refine ⟨_, rfl, ?_⟩
    have hb13 := hb12.trans (hb3.mono hb12.size)
    have ho3 := (ho.grow hb2).grow hb3
    have hsc : ((m : Int) + 1).toNat = m + 1 := by omega
    refine bif_intro (fun h4 => ?_) (fun h4 => ?_)
    · refine append_int ho3 hb13.size (by omega) ?_
      intro o' w4 ho4 hg4 _
      refine ⟨o', (m : Int) + 1, by rw [w64_succ h0 (by omega)], ⟨by omega, by omega, ?_, hb13.grown hg4 hb13.size (fun g hg => (ho3.lt g hg).1)⟩, by omega⟩
      rw [hsc, sitesT, if_pos h4]; exact ho4
    · refine ⟨o, (m : Int) + 1, by rw [w64_succ h0 (by omega)], ⟨by omega, by omega, ?_, hb13⟩, by omega⟩
      rw [hsc, sitesT, if_neg (by simp [h4])]; exact ho3
  · rw [impl_active.A3_0_s]
    rw [show k.toNat = P.length + 1 by omega] at ho
    exact ⟨o, rfl, ho, hb⟩
theorem c_l14Sites {w : World} {l p : Sl} {LL : List (List Int)} {P : List Int} (hl : RowSS w l LL) (hB : BasisOk LL) (hp : RowI w p P) (hP : P.length ≤ 7) :
    Calls PP F.spec_l14Sites #[l.v, p.v] w fun e w' => ∃ s : Sl, e = .returned s.v ∧ OwnI w' w.heap.size s (sitesV LL P) ∧ Below w.heap.size w w' := by
  have hpn : p.n = P.length := by have := hp.n; simpa using this
  have hl8 := hB.1
  refine spec_l14Sites.calls l p ?_
  rw [spec_l14Sites.E_s]
  refine lit0 oneInt (B := w.heap.size) (Nat.le_refl _) ?_
  intro o0 w1 ho0 hg1 _
  refine spec_l14Sites.L3_rule _ _ _ _ _ _ (I := fun o k w' => 0 ≤ k ∧ k ≤ P.length + 1 ∧ OwnI w' w.heap.size o (sitesT LL P k.toNat) ∧ Below w.heap.size w w') (μ := fun _ k _ => (P.length + 1 - k).toNat) ⟨by omega, by omega, ho0, below_of_grow hg1⟩ ?_
  rintro o k w' ⟨h0, hk, ho, hb⟩
  rw [spec_l14Sites.B3_s, hpn]
  have hsl := sitesT_len LL P k.toNat
  refine bif_dec (fun h3 => ?_) (fun h3 => ?_)
  · obtain ⟨m, rfl⟩ : ∃ m : Nat, k = m := ⟨k.toNat, by omega⟩
    rw [Int.toNat_natCast] at ho hsl
    refine (c_l14Child (hp.grow hb) (by omega) (i := m) (by omega)).mono ?_
    rintro e w2 ⟨c, rfl, hc, hb2⟩
    refine ⟨c, rfl, ?_⟩
    have hb12 := hb.trans (hb2.mono hb.size)
    refine (c_l12Avoids (hl.grow hb12) hc.row (by rw [childW_length (by omega)]; omega) (by omega) hB.len).mono ?_
    rintro e w3 ⟨rfl, hb3⟩
    refine ⟨_, rfl, ?_⟩
    have hb13 := hb12.trans (hb3.mono hb12.size)
    have ho3 := (ho.grow hb2).grow hb3
    have hsc : ((m : Int) + 1).toNat = m + 1 := by omega
    refine bif_intro (fun h4 => ?_) (fun h4 => ?_)
    · refine append_int ho3 hb13.size (by omega) ?_
      intro o' w4 ho4 hg4 _
      refine ⟨o', (m : Int) + 1, by rw [w64_succ h0 (by omega)], ⟨by omega, by omega, ?_, hb13.grown hg4 hb13.size (fun g hg => (ho3.lt g hg).1)⟩, by omega⟩
      rw [hsc, sitesT, if_pos h4]; exact ho4
    · refine ⟨o, (m : Int) + 1, by rw [w64_succ h0 (by omega)], ⟨by omega, by omega, ?_, hb13⟩, by omega⟩
      rw [hsc, sitesT, if_neg (by simp [h4])]; exact ho3
  · rw [spec_l14Sites.A3_0_s]
    rw [show k.toNat = P.length + 1 by omega] at ho
    exact ⟨o, rfl, ho, hb⟩

/-! ### children -/
theorem c_children {w : World} {l p : Sl} {LL : List (List Int)} {P : List Int} (hl : RowSS w l LL) (hB : BasisOk LL) (hp : RowI w p P) (hP : P.length ≤ 7) :
    Calls PP F.impl_children #[l.v, p.v] w fun e w' => ∃ s : Sl, e = .returned s.v ∧ OwnSS w' w.heap.size s (childrenV LL P) ∧ Below w.heap.size w w' := by
  refine impl_children.calls l p ?_
  rw [impl_children.E_s]
  refine lit0 oneSint (B := w.heap.size) (Nat.le_refl _) ?_
  intro o0 w1 ho0 hg1 _
  have hb1 := below_of_grow hg1
  refine (c_active (hl.grow hb1) hB (hp.grow hb1) hP).mono ?_
  rintro e w2 ⟨t, rfl, ht, hb12⟩
  refine ⟨t, rfl, ?_⟩
  have hb2 := hb1.trans (hb12.mono hb1.size)
  have htn : t.n = (sitesV LL P).length := by have := ht.n; simpa using this
  have hsl := sitesT_len LL P (P.length + 1)
  show impl_children.L3 std p o0 t (t.n : Int) 0 w2 _
  rw [htn]
  refine impl_children.L3_rule _ _ _ _ _ _ _ (I := fun o k w' => 0 ≤ k ∧ k ≤ (sitesV LL P).length ∧ Below w.heap.size w w' ∧ OwnI w' w1.heap.size t (sitesV LL P) ∧ OwnSS w' w.heap.size o (((sitesV LL P).take k.toNat).map fun i => childW P i.toNat)) (μ := fun _ k _ => ((sitesV LL P).length - k).toNat)
    ⟨by omega, by omega, hb2, ht, (OwnSS.nil ho0).grow hb12⟩ ?_
  rintro o k w' ⟨h0, hk, hb, htr, ho⟩
  rw [impl_children.B3_s]
  refine bif_dec (fun h3 => ?_) (fun h3 => ?_)
  · have hlt : k.toNat < (sitesV LL P).length := by omega
    refine RowI.get htr.row h0 (by omega) ?_
    rw [getD_lt hlt]
    have hm := sitesT_mem (List.getElem_mem hlt)
    obtain ⟨m, hm2⟩ : ∃ m : Nat, (sitesV LL P)[k.toNat] = m := ⟨(sitesV LL P)[k.toNat].toNat, by omega⟩
    rw [hm2] at hm ⊢
    refine (c_child (hp.grow hb) (by omega) (i := m) (by omega)).mono ?_
    rintro e w3 ⟨c, rfl, hc, hb3⟩
    refine ⟨c, rfl, ?_⟩
    have hb13 := hb.trans (hb3.mono hb.size)
    have hsl2 : (sitesV LL P).length ≤ 9 := Nat.le_trans hsl (by omega)
    refine append_new ho hb3 hb.size hc (by simp; omega) ?_
    intro o' w4 ho4 hg4 hn4
    refine ⟨o', k + 1, by rw [w64_succ h0 (by omega)], ⟨by omega, by omega, hb13.grown hg4 hb13.size (fun g hg => (ho.lt g hg).1), ?_, ?_⟩, by omega⟩
    · obtain ⟨rs, ho'⟩ := ho
      have htr3 := htr.grow hb3
      exact htr3.kept hg4 fun g e1 e2 => ((ho'.grow hb3).out.apt htr3 (by decide)) g e2 e1
    · rw [show (k + 1).toNat = k.toNat + 1 by omega, List.take_succ_eq_append_getElem hlt, List.map_append, hm2]
      exact ho4
  · rw [impl_children.A3_0_s]
    rw [show k.toNat = (sitesV LL P).length by omega, List.take_length] at ho
    exact ⟨o, rfl, ho, hb⟩
open Classical in
noncomputable def ActiveSitesV (LL : List (List Int)) (P : List Int) : List Int := if InCl LL P ∧ P.length < 8 then sitesV LL P else []
theorem ActiveSitesV_len (LL : List (List Int)) (P : List Int) : (ActiveSitesV LL P).length < 2^38 := by
  unfold ActiveSitesV
  split
  · rename_i h; have := sitesT_len LL P (P.length + 1); rw [sitesV]; omega
  · simp
open Classical in
theorem c_hasSites {w : World} {l p : Sl} {LL : List (List Int)} {P : List Int} (hl : RowSS w l LL) (hL : LL.length < 2^38) (ht : tot LL < 2^37) (hp : RowI w p P) (hP : P.length < 2^37) :
    Calls PP F.impl_hasSites #[l.v, p.v] w fun e w' => e = .returned (.bool (decide (InCl LL P ∧ P.length < 8))) ∧ Below w.heap.size w w' := by
  have hpn : p.n = P.length := by have := hp.n; simpa using this
  refine impl_hasSites.calls l p ?_
  rw [impl_hasSites.E_s, hpn]
  refine (c_implInClass hl hL ht hp hP).mono ?_
  rintro e w1 ⟨rfl, hb1⟩
  refine ⟨_, rfl, ?_⟩
  refine bif_intro (fun h => ?_) (fun h => ?_)
  · have h : InCl LL P := by simpa [InClassV] using h
    refine ⟨?_, hb1⟩
    congr 2
    by_cases h8 : P.length < 8
    · rw [decide_eq_true (by omega), decide_eq_true ⟨h, h8⟩]
    · rw [decide_eq_false (by omega), decide_eq_false (fun hh => h8 hh.2)]
  · have h : ¬ InCl LL P := by simpa [InClassV] using h
    exact ⟨by simp [h], hb1⟩
theorem c_specActiveSites0 {w : World} {l p : Sl} {LL : List (List Int)} {P : List Int} (hl : RowSS w l LL) (hL : LL.length < 2^38) (ht : tot LL < 2^37) (hp : RowI w p P) (hP : P.length < 2^37) :
    Calls PP F.spec_ActiveSites #[l.v, p.v] w fun e w' => ∃ s : Sl, e = .returned s.v ∧ OwnI w' w.heap.size s (ActiveSitesV LL P) ∧ Below w.heap.size w w' := by
  have hpn : p.n = P.length := by have := hp.n; simpa using this
  refine spec_ActiveSites.calls l p ?_
  rw [spec_ActiveSites.E_s, hpn]
  refine (c_specInClass hl hL ht hp hP).mono ?_
  rintro e w1 ⟨rfl, hb1⟩
  refine ⟨_, rfl, ?_⟩
  have no : ¬ (InCl LL P ∧ P.length < 8) → sem1 .sl PP (Instr.buildSlice T_Sint 0 #[]) w1 fun (ρ : Sl) w2 => ∃ s : Sl, (Ending.returned ρ.v) = .returned s.v ∧ OwnI w2 w.heap.size s (ActiveSitesV LL P) ∧ Below w.heap.size w w2 := fun hn => by
    refine lit0 oneInt (B := w.heap.size) hb1.size ?_
    intro s w2 hs hg _
    exact ⟨s, rfl, by rw [ActiveSitesV, if_neg hn]; exact hs, hb1.grown hg hb1.size (by simp)⟩
  refine bif_intro (fun h => ?_) (fun h => ?_)
  · have h : ¬ InCl LL P := by simpa [InClassV] using h
    exact no fun hh => h hh.1
  have h : InCl LL P := by simpa [InClassV] using h
  have h8 := h.2.1.1
  refine bif_intro (fun h2 => ?_) (fun h2 => ?_)
  · have h2 : (P.length : Int) = 8 := by simpa using h2
    exact no fun hh => by omega
  have h2 : (P.length : Int) ≠ 8 := by simpa using h2
  refine (c_l14Sites (hl.grow hb1) h.1 (hp.grow hb1) (by omega)).mono ?_
  rintro e w2 ⟨s, rfl, hs, hb2⟩
  exact ⟨s, rfl, s, rfl, by rw [ActiveSitesV, if_pos ⟨h, by omega⟩]; exact hs.mono hb1.size, hb1.trans (hb2.mono hb1.size)⟩
theorem c_specActiveSites {w : World} {l p : Sl} {LL : List (List Int)} {P : List Int} (hl : RowSS w l LL) (hL : LL.length < 2^38) (ht : tot LL < 2^37) (hp : RowI w p P) (hP : P.length < 2^37) :
    Calls PP F.spec_ActiveSites #[l.v, p.v] w fun e w' => ∃ s : Sl, e = .returned s.v ∧ RowI w' s (ActiveSitesV LL P) ∧ Below w.heap.size w w' :=
  (c_specActiveSites0 hl hL ht hp hP).mono fun e w' ⟨s, h1, h2, h3⟩ => ⟨s, h1, h2.row, h3⟩
/-! ### LabelOf -/
open Classical in
noncomputable def LabelOfV (LL : List (List Int)) (P : List Int) : Int := if InCl LL P ∧ P.length < 8 then ((sitesV LL P).length : Int) else -1
/-! ### ChildrenOf -/
open Classical in
noncomputable def ChildrenOfV (LL : List (List Int)) (P : List Int) : List (List Int) := if InCl LL P ∧ P.length < 8 then childrenV LL P else []
theorem childrenV_len (LL : List (List Int)) (P : List Int) : (childrenV LL P).length ≤ P.length + 1 := by
  rw [childrenV, List.length_map]; exact sitesT_len LL P (P.length + 1)
theorem childrenV_mem {LL : List (List Int)} {P q : List Int} (h : q ∈ childrenV LL P) : ∃ i : Nat, i ≤ P.length ∧ q = childW P i ∧ avoidsV LL q = true := by
  rw [childrenV, List.mem_map] at h
  obtain ⟨x, hx, rfl⟩ := h
  have := sitesT_mem hx
  exact ⟨x.toNat, by omega, rfl, this.2.2⟩
theorem tot_le_mul' {l : List (List Int)} {n : Nat} (h : ∀ p ∈ l, p.length ≤ n) : tot l ≤ l.length * n := by
  induction l with
  | nil => simp [tot]
  | cons x r ih =>
    have h1 := h x (by simp)
    have h2 := ih (fun p hp => h p (by simp [hp]))
    rw [tot_cons, List.length_cons, Nat.succ_mul]; omega
theorem ChildrenOfV_len (LL : List (List Int)) (P : List Int) : (ChildrenOfV LL P).length < 2^38 ∧ tot (ChildrenOfV LL P) < 2^38 := by
  unfold ChildrenOfV
  split
  · rename_i h
    have h1 := childrenV_len LL P
    have h2 : tot (childrenV LL P) ≤ (childrenV LL P).length * 9 := tot_le_mul' fun q hq => by
      obtain ⟨i, hi, rfl, _⟩ := childrenV_mem hq
      rw [childW_length hi]; omega
    omega
  · simp [tot]
theorem c_specChildrenOf0 {w : World} {l p : Sl} {LL : List (List Int)} {P : List Int} (hl : RowSS w l LL) (hL : LL.length < 2^38) (ht : tot LL < 2^37) (hp : RowI w p P) (hP : P.length < 2^37) :
    Calls PP F.spec_ChildrenOf #[l.v, p.v] w fun e w' => ∃ s : Sl, e = .returned s.v ∧ OwnSS w' w.heap.size s (ChildrenOfV LL P) ∧ Below w.heap.size w w' := by
  refine spec_ChildrenOf.calls l p ?_
  rw [spec_ChildrenOf.E_s]
  refine lit0 oneSint (B := w.heap.size) (Nat.le_refl _) ?_
  intro o0 w1 ho0 hg1 _
  have hb1 := below_of_grow hg1
  refine (c_specActiveSites0 (hl.grow hb1) hL ht (hp.grow hb1) hP).mono ?_
  rintro e w2 ⟨t, rfl, htr0, hb12⟩
  refine ⟨t, rfl, ?_⟩
  have hb2 := hb1.trans (hb12.mono hb1.size)
  have htn : t.n = (ActiveSitesV LL P).length := by have := htr0.n; simpa using this
  have hV : ChildrenOfV LL P = (ActiveSitesV LL P).map fun i => childW P i.toNat := by
    unfold ChildrenOfV ActiveSitesV
    split <;> simp [childrenV]
  have hmem : ∀ x ∈ ActiveSitesV LL P, P.length < 8 ∧ 0 ≤ x ∧ x < ((P.length + 1 : Nat) : Int) := fun x hx => by
    unfold ActiveSitesV at hx
    split at hx
    · rename_i h; have := sitesT_mem hx; exact ⟨h.2, this.1, this.2.1⟩
    · simp at hx
  have hlen9 : (ActiveSitesV LL P).length ≤ 9 := by
    unfold ActiveSitesV
    split
    · rename_i h; have := sitesT_len LL P (P.length + 1); rw [sitesV]; omega
    · simp
  refine spec_ChildrenOf.L4_rule _ _ _ _ _ _ (I := fun o k w' => 0 ≤ k ∧ k ≤ (ActiveSitesV LL P).length ∧ Below w.heap.size w w' ∧ OwnI w' w1.heap.size t (ActiveSitesV LL P) ∧ OwnSS w' w.heap.size o (((ActiveSitesV LL P).take k.toNat).map fun i => childW P i.toNat)) (μ := fun _ k _ => ((ActiveSitesV LL P).length - k).toNat)
    ⟨by omega, by omega, hb2, htr0, (OwnSS.nil ho0).grow hb12⟩ ?_
  rintro o k w' ⟨h0, hk, hb, htr, ho⟩
  rw [spec_ChildrenOf.B4_s, htn]
  refine bif_dec (fun h3 => ?_) (fun h3 => ?_)
  · have hlt : k.toNat < (ActiveSitesV LL P).length := by omega
    refine RowI.get htr.row h0 (by omega) ?_
    rw [getD_lt hlt]
    have hm := hmem _ (List.getElem_mem hlt)
    obtain ⟨m, hm2⟩ : ∃ m : Nat, (ActiveSitesV LL P)[k.toNat] = m := ⟨(ActiveSitesV LL P)[k.toNat].toNat, by omega⟩
    rw [hm2] at hm ⊢
    refine (c_l14Child (hp.grow hb) (by omega) (i := m) (by omega)).mono ?_
    rintro e w3 ⟨c, rfl, hc, hb3⟩
    refine ⟨c, rfl, ?_⟩
    have hb13 := hb.trans (hb3.mono hb.size)
    refine append_new ho hb3 hb.size hc (by simp; omega) ?_
    intro o' w4 ho4 hg4 hn4
    refine ⟨o', k + 1, by rw [w64_succ h0 (by omega)], ⟨by omega, by omega, hb13.grown hg4 hb13.size (fun g hg => (ho.lt g hg).1), ?_, ?_⟩, by omega⟩
    · obtain ⟨rs, ho'⟩ := ho
      have htr3 := htr.grow hb3
      exact htr3.kept hg4 fun g e1 e2 => ((ho'.grow hb3).out.apt htr3 (by decide)) g e2 e1
    · rw [show (k + 1).toNat = k.toNat + 1 by omega, List.take_succ_eq_append_getElem hlt, List.map_append, hm2]
      exact ho4
  · rw [spec_ChildrenOf.A4_0_s]
    rw [show k.toNat = (ActiveSitesV LL P).length by omega, List.take_length] at ho
    exact ⟨o, rfl, by rw [hV]; exact ho, hb⟩
theorem c_specChildrenOf {w : World} {l p : Sl} {LL : List (List Int)} {P : List Int} (hl : RowSS w l LL) (hL : LL.length < 2^38) (ht : tot LL < 2^37) (hp : RowI w p P) (hP : P.length < 2^37) :
    Calls PP F.spec_ChildrenOf #[l.v, p.v] w fun e w' => ∃ s : Sl, e = .returned s.v ∧ RowSS w' s (ChildrenOfV LL P) ∧ Below w.heap.size w w' :=
  (c_specChildrenOf0 hl hL ht hp hP).mono fun e w' ⟨s, h1, h2, h3⟩ => ⟨s, h1, h2.row, h3⟩
end Go.Proofs.Ytjojajnkofgfpaa
