/- RuleCounts: both texts, and the law. -/
import Derived.Test.YthbjkgpbnfibkaaCodeRc
import Derived.Test.YthbjkgpbnfibkaaFuS
import Derived.Test.YthbjkgpbnfibkaaLawSz
import Derived.Test.YthbjkgpbnfibkaaL1
import Derived.Test.YthbjkgpbnfibkaaFindMath
namespace Go.Proofs.Ythbjkgpbnfibkaa
open Go Go.RowKit
set_option maxRecDepth 100000

def headIs (x : Int) (r : List Int) : Bool := r.getD 0 0 == x
/-- What a rule makes of a label. -/
def ruleV (R : List (List Int)) (x : Int) : List Int := if R.findIdx (headIs x) < R.length then (R.getD (R.findIdx (headIs x)) []).drop 1 else []
def stepR (R : List (List Int)) (L : List Int) : List Int := L.flatMap (ruleV R)
def itR (R : List (List Int)) (x : Int) : Nat → List Int
  | 0 => [x]
  | k + 1 => stepR R (itR R x k)
structure RuleOk (R : List (List Int)) (n : Int) : Prop where
  len : R.length ≤ 20
  row : ∀ r ∈ R, r ≠ [] ∧ r.length ≤ 20
  lo : 0 ≤ n
  hi : n ≤ 8
def Small (R : List (List Int)) (x : Int) (m : Nat) : Prop := ∀ k, k < m → (itR R x k).length ≤ 5000
def lenR (R : List (List Int)) (x : Int) (k : Nat) : Int := ((itR R x k).length : Int)
def lensR (R : List (List Int)) (x : Int) (m : Nat) : List Int := (List.range m).map (lenR R x)
theorem lensR_succ (R : List (List Int)) (x : Int) (m : Nat) : lensR R x (m + 1) = lensR R x m ++ [lenR R x m] := by simp [lensR, List.range_succ]
theorem lensR_len (R : List (List Int)) (x : Int) (m : Nat) : (lensR R x m).length = m := by simp [lensR]
open Classical in
noncomputable def RuleCountsV (R : List (List Int)) (x n : Int) : List Int := if RuleOk R n ∧ Small R x (n.toNat + 1) then lensR R x (n.toNat + 1) else []
theorem RuleCountsV_len (R : List (List Int)) (x n : Int) : (RuleCountsV R x n).length < 2^38 := by
  unfold RuleCountsV
  split
  · rename_i h
    have := h.1.lo; have := h.1.hi
    rw [lensR_len]; omega
  · simp
theorem length_flatMap_le' {α β : Type} (l : List α) (f : α → List β) (c : Nat) (h : ∀ x ∈ l, (f x).length ≤ c) : (l.flatMap f).length ≤ l.length * c := by
  induction l with
  | nil => simp
  | cons x r ih =>
    have h1 := h x (by simp)
    have h2 := ih (fun p hp => h p (by simp [hp]))
    rw [List.flatMap_cons, List.length_append, List.length_cons, Nat.succ_mul]; omega
theorem ruleV_len {R : List (List Int)} {n : Int} (h : RuleOk R n) (x : Int) : (ruleV R x).length ≤ 20 := by
  unfold ruleV
  split
  · rename_i h5
    rw [getD_SS h5, List.length_drop]
    have := (h.row _ (List.getElem_mem h5)).2
    omega
  · simp
theorem stepR_take_len {R : List (List Int)} {n : Int} (h : RuleOk R n) (L : List Int) (j : Nat) (hL : L.length ≤ 5000) : ((L.take j).flatMap (ruleV R)).length ≤ 100000 := by
  have h1 := length_flatMap_le' (L.take j) (ruleV R) 20 (fun x _ => ruleV_len h x)
  rw [List.length_take] at h1
  omega
theorem flat_take_mono {α β : Type} (L : List α) (f : α → List β) (j : Nat) : ((L.take j).flatMap f).length ≤ (L.flatMap f).length := by
  conv => rhs; rw [← List.take_append_drop j L, List.flatMap_append, List.length_append]
  omega
theorem flat_snoc1 {α β : Type} (l : List α) (x : α) (f : α → List β) : (l ++ [x]).flatMap f = l.flatMap f ++ f x := by simp
theorem Small.succ {R x m} (h : Small R x m) (h1 : (itR R x m).length ≤ 5000) : Small R x (m + 1) := fun k hk => by
  by_cases e : k = m
  · subst e; exact h1
  · exact h k (by omega)
theorem ruleV_at {R : List (List Int)} {x : Int} {i : Nat} (hi : i < R.length) (h1 : headIs x R[i] = true) (h2 : ∀ j (hj : j < R.length), j < i → headIs x R[j] = false) : ruleV R x = R[i].drop 1 := by
  have : R.findIdx (headIs x) = i := by rw [List.findIdx_eq hi]; exact ⟨h1, fun j hj => h2 j (by omega) hj⟩
  rw [ruleV, this, if_pos hi, getD_SS hi]
theorem ruleV_none {R : List (List Int)} {x : Int} (h : ∀ j (hj : j < R.length), headIs x R[j] = false) : ruleV R x = [] := by
  rw [ruleV, if_neg]
  intro h5
  rw [List.findIdx_lt_length] at h5
  obtain ⟨r, h6, h7⟩ := h5
  obtain ⟨i, hi, rfl⟩ := List.getElem_of_mem h6
  rw [h i hi] at h7; cases h7
theorem tail_cut {w : World} {r : Sl} {L : List Int} (h : RowI w r L) (hne : L ≠ []) {K : Sl → Prop} (hK : ∀ t, RowI w t (L.drop 1) → K t) : cutK 1 r (some 1) none K := by
  have hn : r.n = L.length := by have := h.n; simpa using this
  have h0 : 0 < L.length := List.length_pos_iff.2 hne
  refine Row.cut h (by simp) (by simp <;> omega) (by simp <;> omega) fun t ht => hK t ?_
  have e2 : (List.take ((none : Option Int).getD (r.n : Int)).toNat (L.map vI)).drop ((some (1 : Int)).getD 0).toNat = (L.drop 1).map vI := by
    rw [hn]; simp [List.map_drop, List.take_of_length_le]
  rw [e2] at ht
  exact ht

/-! ### spec -/
theorem c_l15Step {w : World} {a b : Sl} {R : List (List Int)} {L : List Int} {n : Int} (ha : RowSS w a R) (hR : RuleOk R n) (hb0 : RowI w b L) (hL : L.length ≤ 5000) :
    Calls PP F.spec_l15Step #[a.v, b.v] w fun e w' => ∃ s : Sl, e = .returned s.v ∧ OwnI w' w.heap.size s (stepR R L) ∧ Below w.heap.size w w' := by
  have han := ha.n
  have hbn : b.n = L.length := by have := hb0.n; simpa using this
  have hR20 := hR.len
  refine spec_l15Step.calls a b ?_
  rw [spec_l15Step.E_s]
  refine lit0 oneInt (B := w.heap.size) (Nat.le_refl _) ?_
  intro o w1 ho hg1 _
  have hb1 := below_of_grow hg1
  refine spec_l15Step.L3_rule _ _ _ _ _ _ (I := fun o k w' => 0 ≤ k ∧ k ≤ L.length ∧ Below w.heap.size w w' ∧ OwnI w' w.heap.size o ((L.take k.toNat).flatMap (ruleV R))) (μ := fun _ k _ => (L.length - k).toNat)
    ⟨by omega, by omega, hb1, by simpa [OwnI] using ho⟩ ?_
  rintro o k w' ⟨hk0, hk, hb, ho⟩
  rw [spec_l15Step.B3_s, hbn]
  refine bif_dec (fun h3 => ?_) (fun h3 => ?_)
  · have hlt : k.toNat < L.length := by omega
    have hsn : (L.take (k.toNat + 1)).flatMap (ruleV R) = (L.take k.toNat).flatMap (ruleV R) ++ ruleV R L[k.toNat] := by
      rw [List.take_succ_eq_append_getElem hlt, flat_snoc1]
    have hf := stepR_take_len hR L k.toNat hL
    have e1 : (k + 1).toNat = k.toNat + 1 := by omega
    refine spec_l15Step.L6_rule _ _ _ _ _ _ _ (I := fun o' i w2 => o' = o ∧ 0 ≤ i ∧ i ≤ R.length ∧ Below w.heap.size w w2 ∧ OwnI w2 w.heap.size o ((L.take k.toNat).flatMap (ruleV R)) ∧ ∀ j (hj : j < R.length), j < i.toNat → headIs L[k.toNat] R[j] = false) (μ := fun _ i _ => (R.length - i).toNat)
      ⟨rfl, by omega, by omega, hb, ho, fun j _ hj => by simp at hj⟩ ?_
    rintro o' i w2 ⟨rfl, hi0, hi, hb2, ho2, hall⟩
    rw [spec_l15Step.B6_s, han]
    refine bif_dec (fun h5 => ?_) (fun h5 => ?_)
    · have hlt2 : i.toNat < R.length := by omega
      obtain ⟨hne, hl20⟩ := hR.row _ (List.getElem_mem hlt2)
      have hpos : 0 < R[i.toNat].length := List.length_pos_iff.2 hne
      refine RowSS.get (ha.grow hb2) hi0 (by omega) fun r hr => ?_
      rw [getD_SS hlt2] at hr
      refine RowI.get hr (by omega) (by omega) ?_
      refine RowI.get (hb0.grow hb2) hk0 (by omega) ?_
      rw [getD_lt hlt]
      refine drew_intro fun w3 hd => ?_
      have hb3 := hb2.trans (hd.below _)
      have ho3 := ho2.heap hd.heap'
      refine bif_intro (fun h7 => ?_) (fun h7 => ?_)
      · refine RowSS.get (ha.grow hb3) hi0 (by omega) fun r hr => ?_
        rw [getD_SS hlt2] at hr
        refine tail_cut hr hne fun t ht => ?_
        refine append_row oneInt ho3 hb3.size ht (fun v hv => by obtain ⟨x, _, rfl⟩ := List.mem_map.1 hv; exact One.int x) (by rw [List.length_map, List.length_map, List.length_drop]; omega) ?_
        intro o4 w4 ho4 hg4 _ _
        rw [spec_l15Step.A6_2_s]
        refine ⟨o4, k + 1, by rw [w64_succ hk0 (by omega)], ⟨by omega, by omega, hb3.grown hg4 hb3.size (fun g hg => (ho3.lt g hg).1), ?_⟩, by omega⟩
        rw [e1, hsn, ruleV_at hlt2 (by simpa [headIs] using h7) hall]
        rw [← List.map_append] at ho4
        exact ho4
      · refine ⟨o', i + 1, by rw [w64_succ hi0 (by omega)], ⟨rfl, by omega, by omega, hb3, ho3, fun j hj1 hj => ?_⟩, by omega⟩
        by_cases e : j = i.toNat
        · subst e; simpa [headIs] using h7
        · exact hall j hj1 (by omega)
    · rw [spec_l15Step.A6_2_s]
      refine ⟨o', k + 1, by rw [w64_succ hk0 (by omega)], ⟨by omega, by omega, hb2, ?_⟩, by omega⟩
      rw [e1, hsn, ruleV_none (fun j hj => hall j hj (by omega)), List.append_nil]
      exact ho2
  · rw [spec_l15Step.A3_0_s]
    rw [show k.toNat = L.length by omega, List.take_length] at ho
    exact ⟨o, rfl, ho, hb⟩
theorem c_specRuleCounts0 {w : World} {a : Sl} {R : List (List Int)} (ha : RowSS w a R) (hRl : R.length < 2^38) (ht : tot R < 2^37) (x n : Int) :
    Calls PP F.spec_RuleCounts #[a.v, vI x, vI n] w fun e w' => ∃ s : Sl, e = .returned s.v ∧ OwnI w' w.heap.size s (RuleCountsV R x n) ∧ Below w.heap.size w w' := by
  have han := ha.n
  refine spec_RuleCounts.calls a x n ?_
  rw [spec_RuleCounts.E_s]
  refine lit0 oneInt (B := w.heap.size) (Nat.le_refl _) ?_
  intro o w1 ho hg1 _
  have hb1 := below_of_grow hg1
  have no : ∀ h : ¬ RuleOk R n, RuleCountsV R x n = [] := fun h => by rw [RuleCountsV, if_neg (fun hh => h hh.1)]
  refine spec_RuleCounts.L3_rule _ _ _ _ _ _ _ (I := fun k w' => w' = w1 ∧ 0 ≤ k ∧ k ≤ R.length ∧ ∀ j (hj : j < R.length), j < k.toNat → R[j] ≠ [] ∧ R[j].length ≤ 20 ∧ R.length ≤ 20) (μ := fun k _ => (R.length - k).toNat)
    ⟨rfl, by omega, by omega, fun j _ hj => by simp at hj⟩ ?_
  rintro k w' ⟨rfl, hk0, hk, hall⟩
  rw [spec_RuleCounts.B3_s, han]
  refine bif_dec (fun h3 => ?_) (fun h3 => ?_)
  · have hlt : k.toNat < R.length := by omega
    refine RowSS.get (ha.grow hb1) hk0 (by omega) fun r hr => ?_
    rw [getD_SS hlt] at hr
    have hrn : r.n = R[k.toNat].length := by have := hr.n; simpa using this
    simp only [hrn]
    refine bif_intro (fun h4 => ?_) (fun h4 => ?_)
    · rw [spec_RuleCounts.R3_s]
      have h5 : R[k.toNat] = [] := List.eq_nil_of_length_eq_zero (by simpa using h4)
      exact ⟨o, rfl, by rw [no fun hh => (hh.row _ (List.getElem_mem hlt)).1 h5]; exact ho, hb1⟩
    · have h4 : R[k.toNat] ≠ [] := fun hh => by rw [hh] at h4; simp at h4
      refine RowSS.get (ha.grow hb1) hk0 (by omega) fun r hr => ?_
      rw [getD_SS hlt] at hr
      have hrn : r.n = R[k.toNat].length := by have := hr.n; simpa using this
      simp only [hrn]
      refine bif_dec (fun h5 => ?_) (fun h5 => ?_)
      · rw [spec_RuleCounts.R3_s]
        exact ⟨o, rfl, by rw [no fun hh => by have := (hh.row _ (List.getElem_mem hlt)).2; omega]; exact ho, hb1⟩
      · refine bif_dec (fun h6 => ?_) (fun h6 => ?_)
        · rw [spec_RuleCounts.R3_s]
          exact ⟨o, rfl, by rw [no fun hh => by have := hh.len; omega]; exact ho, hb1⟩
        · refine ⟨k + 1, by rw [w64_succ hk0 (by omega)], ⟨trivial, by omega, by omega, fun j hj1 hj => ?_⟩, by omega⟩
          by_cases e : j = k.toNat
          · subst e; exact ⟨h4, by omega, by omega⟩
          · exact hall j hj1 (by omega)
  · rw [spec_RuleCounts.A3_0_s]
    refine Pure.pcall1 (s := .bool) (c_l1In n 0 8) ?_
    refine bif_intro (fun h => ?_) (fun h => ?_)
    · have h : ¬ (0 ≤ n ∧ n ≤ 8) := by simp at h; omega
      exact ⟨o, rfl, by rw [no fun hh => h ⟨hh.lo, hh.hi⟩]; exact ho, hb1⟩
    have hn : 0 ≤ n ∧ n ≤ 8 := by simpa using h
    have hR : RuleOk R n := by
      refine ⟨?_, fun r hr => ?_, hn.1, hn.2⟩
      · by_cases h0 : R.length = 0
        · omega
        · exact (hall 0 (by omega) (by omega)).2.2
      · obtain ⟨i, hi, rfl⟩ := List.getElem_of_mem hr
        have := hall i hi (by omega)
        exact ⟨this.1, this.2.1⟩
    obtain ⟨n, rfl⟩ : ∃ m : Nat, n = m := ⟨n.toNat, by omega⟩
    refine lit1 oneInt (B := w'.heap.size) (Nat.le_refl _) (One.int x) ?_
    intro lb w2 hlb hg2 _
    have hb2 := hb1.grown hg2 hb1.size (by simp)
    have ho2 : OwnI w2 w.heap.size o [] := Own.grow ho (below_of_grow hg2)
    have hlb' : OwnI w2 w'.heap.size lb (itR R x 0) := hlb
    refine spec_RuleCounts.L11_rule _ _ _ _ _ _ _ (I := fun o lb k w3 => 0 ≤ k ∧ k ≤ (n + 1 : Nat) ∧ Below w.heap.size w w3 ∧ OwnI w3 w.heap.size o (lensR R x k.toNat) ∧ Small R x k.toNat ∧ (k ≤ n → ∃ C, OwnI w3 C lb (itR R x k.toNat) ∧ ∀ g, o.blk = some g → g < C)) (μ := fun _ _ k _ => ((n + 1 : Nat) - k).toNat)
      ⟨by omega, by omega, hb2, by simpa [lensR] using ho2, fun j hj => by simp at hj, fun _ => ⟨_, hlb', fun g hg => (ho.lt g hg).2⟩⟩ ?_
    rintro o lb k w3 ⟨hk0, hk, hb, ho, hsm, hlev⟩
    rw [spec_RuleCounts.B11_s]
    refine bif_dec (fun h3 => ?_) (fun h3 => ?_)
    · obtain ⟨C, hlb, hC⟩ := hlev h3
      have hln : lb.n = (itR R x k.toNat).length := by have := hlb.n; simpa using this
      rw [hln]
      have e1 : (k + 1).toNat = k.toNat + 1 := by omega
      refine bif_dec (fun h4 => ?_) (fun h4 => ?_)
      · refine lit0 oneInt (B := w.heap.size) hb.size ?_
        intro z w4 hz hg4 _
        rw [spec_RuleCounts.R11_s]
        refine ⟨z, rfl, ?_, hb.grown hg4 hb.size (by simp)⟩
        rw [RuleCountsV, if_neg (fun hh => by have := hh.2 k.toNat (by omega); omega)]
        exact hz
      · have hsm' := hsm.succ (m := k.toNat) (by omega)
        refine append_int ho hb.size (by rw [lensR_len]; omega) ?_
        intro o' w4 ho4 hg4 _
        have hb4 := hb.grown hg4 hb.size (fun g hg => (ho.lt g hg).1)
        have hlb4 : OwnI w4 C lb (itR R x k.toNat) := Own.keeps hlb (keeps_grown hg4) (fun g hg hg2 => by have := hC g hg2; have := (hlb.lt g hg).1; omega)
        refine bif_dec (fun h5 => ?_) (fun h5 => ?_)
        · refine (c_l15Step (ha.grow hb4) hR hlb4.row (by omega)).mono ?_
          rintro e w5 ⟨s, rfl, hs, hb5⟩
          refine ⟨s, rfl, ?_⟩
          refine ⟨o', s, k + 1, by rw [w64_succ hk0 (by omega)], ⟨by omega, by omega, hb4.trans (hb5.mono hb4.size), ?_, ?_, fun _ => ⟨_, ?_, fun g hg => (ho4.lt g hg).2⟩⟩, by omega⟩
          · rw [e1, lensR_succ]; exact Own.grow ho4 hb5
          · rw [e1]; exact hsm'
          · rw [e1]; exact hs
        · refine ⟨o', lb, k + 1, by rw [w64_succ hk0 (by omega)], ⟨by omega, by omega, hb4, ?_, ?_, fun _ => by omega⟩, by omega⟩
          · rw [e1, lensR_succ]; exact ho4
          · rw [e1]; exact hsm'
    · rw [spec_RuleCounts.A11_2_s]
      have e1 : k.toNat = n + 1 := by omega
      rw [e1] at ho hsm
      exact ⟨o, rfl, by rw [RuleCountsV, if_pos ⟨hR, by rw [Int.toNat_natCast]; exact hsm⟩, Int.toNat_natCast]; exact ho, hb⟩
theorem c_specRuleCounts {w : World} {a : Sl} {R : List (List Int)} (ha : RowSS w a R) (hRl : R.length < 2^38) (ht : tot R < 2^37) (x n : Int) :
    Calls PP F.spec_RuleCounts #[a.v, vI x, vI n] w fun e w' => ∃ s : Sl, e = .returned s.v ∧ RowI w' s (RuleCountsV R x n) ∧ Below w.heap.size w w' :=
  (c_specRuleCounts0 ha hRl ht x n).mono fun e w' ⟨s, he, ho, hb⟩ => ⟨s, he, ho.row, hb⟩

/-! ### impl -/
def badRow (r : List Int) : Bool := decide (r.length = 0) || decide (r.length > 20)
theorem c_ruleL1 {w0 : World} {r : Sl} {L : List Int} (hr : RowI w0 r L) : FnB w0 (.func (.func F.impl_RuleCountsL1) #[] #[]) [r.v] (badRow L) := by
  intro w hb
  refine ⟨_, _, _, rfl, by kernel_rfl, ?_⟩
  show Calls PP F.impl_RuleCountsL1 #[r.v] w _
  refine impl_RuleCountsL1.calls r ?_
  have hrn : r.n = L.length := by have := hr.n; simpa using this
  rw [impl_RuleCountsL1.E_s, hrn]
  refine bif_intro (fun h => ?_) (fun h => ?_)
  · have h : L = [] := List.eq_nil_of_length_eq_zero (by simpa using h)
    exact ⟨by simp [badRow, h], Below.refl _ _⟩
  · have h : L ≠ [] := fun hh => by rw [hh] at h; simp at h
    refine ⟨?_, Below.refl _ _⟩
    have : badRow L = decide (L.length > 20) := by simp [badRow, h]
    rw [this]
    congr 2
    exact decide_eq_decide.2 (by omega)
theorem c_ruleL2 {w0 : World} {r : Sl} {L : List Int} (hr : RowI w0 r L) (hne : L ≠ []) {p : Addr} {x : Int} (hp : w0.cell? p = some (vI x)) : FnB w0 (.func (.func F.impl_RuleCountsL2) #[] #[.pointer (some p)]) [r.v] (headIs x L) := by
  intro w hb
  refine ⟨_, _, _, rfl, by kernel_rfl, ?_⟩
  show Calls PP F.impl_RuleCountsL2 #[r.v, .pointer (some p)] w _
  refine impl_RuleCountsL2.calls r p ?_
  rw [impl_RuleCountsL2.E_s]
  have h0 : 0 < L.length := List.length_pos_iff.2 hne
  refine RowI.get (hr.grow hb) (by omega) (by omega) ?_
  refine ⟨x, cell_grow hp hb, ?_⟩
  refine drew_intro fun w3 hd => ⟨rfl, hd.below _⟩
theorem c_implRuleCounts {w : World} {a : Sl} {R : List (List Int)} (ha : RowSS w a R) (hRl : R.length < 2^38) (ht : tot R < 2^37) (x n : Int) :
    Calls PP F.impl_RuleCounts #[a.v, vI x, vI n] w fun e w' => ∃ s : Sl, e = .returned s.v ∧ OwnI w' w.heap.size s (RuleCountsV R x n) ∧ Below w.heap.size w w' := by
  have han := ha.n
  have no : ∀ h : ¬ RuleOk R n, RuleCountsV R x n = [] := fun h => by rw [RuleCountsV, if_neg (fun hh => h hh.1)]
  refine impl_RuleCounts.calls a x n ?_
  rw [impl_RuleCounts.E_s, han]
  refine bif_dec (fun h1 => ?_) (fun h1 => ?_)
  · exact ⟨Sl.nil, rfl, by rw [no fun hh => by have := hh.lo; omega]; exact Own.nil _ _ _, Below.refl _ _⟩
  refine bif_dec (fun h2 => ?_) (fun h2 => ?_)
  · exact ⟨Sl.nil, rfl, by rw [no fun hh => by have := hh.hi; omega]; exact Own.nil _ _ _, Below.refl _ _⟩
  refine bif_dec (fun h3 => ?_) (fun h3 => ?_)
  · exact ⟨Sl.nil, rfl, by rw [no fun hh => by have := hh.len; omega]; exact Own.nil _ _ _, Below.refl _ _⟩
  refine (c_ContainsFuncS ha hRl (φ := badRow) (fun L _ r hr => c_ruleL1 hr)).mono ?_
  rintro e w1 ⟨rfl, hb1⟩
  refine ⟨_, rfl, ?_⟩
  refine bif_intro (fun h => ?_) (fun h => ?_)
  · refine ⟨Sl.nil, rfl, ?_, hb1⟩
    rw [no fun hh => ?_]; · exact Own.nil _ _ _
    obtain ⟨r, hr, h5⟩ := List.any_eq_true.1 h
    have := hh.row r hr
    have h6 : 0 < r.length := List.length_pos_iff.2 this.1
    simp [badRow] at h5
    rcases h5 with h5 | h5
    · exact this.1 h5
    · omega
  have hR : RuleOk R n := by
    refine ⟨by omega, fun r hr => ?_, by omega, by omega⟩
    have := List.any_eq_false.1 h r hr
    simp [badRow] at this
    exact ⟨this.1, by omega⟩
  obtain ⟨n, rfl⟩ : ∃ m : Nat, n = m := ⟨n.toNat, by omega⟩
  refine lit1 oneInt (B := w.heap.size) hb1.size (One.int x) ?_
  intro lb w2 hlb hg2 _
  have hb2 := hb1.grown hg2 hb1.size (by simp)
  refine lit1 oneInt (B := w.heap.size) hb2.size (One.int 1) ?_
  intro o w3 ho hg3 _
  have hb3 := hb2.grown hg3 hb2.size (by simp)
  have hlb3 : RowI w3 lb (itR R x 0) := (Own.grow (show OwnI w2 w.heap.size lb [x] from hlb) (below_of_grow hg3)).row
  have hs0 : Small R x 1 := fun k hk => by
    have h0 : k = 0 := by omega
    rw [h0]; simp [itR]
  refine impl_RuleCounts.L6_rule _ _ _ _ _ _ _ (I := fun lb o i w' => 0 ≤ i ∧ i ≤ n ∧ Below w.heap.size w w' ∧ RowI w' lb (itR R x i.toNat) ∧ OwnI w' w.heap.size o (lensR R x (i.toNat + 1)) ∧ Small R x (i.toNat + 1)) (μ := fun _ _ i _ => (n - i).toNat)
    ⟨by omega, by omega, hb3, hlb3, ho, hs0⟩ ?_
  rintro lb o i w' ⟨hi0, hi, hb, hlb, ho, hsm⟩
  rw [impl_RuleCounts.B6_s]
  refine bif_dec (fun h3 => ?_) (fun h3 => ?_)
  · refine lit0 oneInt (B := w'.heap.size) (Nat.le_refl _) ?_
    intro x0 w7 hx0 hg7 _
    have hb7 := below_of_grow hg7
    have hln : lb.n = (itR R x i.toNat).length := by have := hlb.n; simpa using this
    have hl5 := hsm i.toNat (by omega)
    have e1 : (i + 1).toNat = i.toNat + 1 := by omega
    rw [hln]
    refine impl_RuleCounts.L9_rule _ _ _ _ _ _ _ _ _ _ (I := fun nx j w8 => 0 ≤ j ∧ j ≤ (itR R x i.toNat).length ∧ Below w'.heap.size w' w8 ∧ OwnI w8 w'.heap.size nx (((itR R x i.toNat).take j.toNat).flatMap (ruleV R)) ∧ (((itR R x i.toNat).take j.toNat).flatMap (ruleV R)).length ≤ 5000) (μ := fun _ j _ => ((itR R x i.toNat).length - j).toNat)
      ⟨by omega, by omega, hb7, by simpa [OwnI] using hx0, by simp⟩ ?_
    rintro nx j w8 ⟨hj0, hj, hb8, hnx, hs8⟩
    have hbw8 := hb.trans (hb8.mono hb.size)
    rw [impl_RuleCounts.B9_s]
    refine bif_dec (fun h5 => ?_) (fun h5 => ?_)
    · have hlt : j.toNat < (itR R x i.toNat).length := by omega
      have hsn : ((itR R x i.toNat).take (j.toNat + 1)).flatMap (ruleV R) = ((itR R x i.toNat).take j.toNat).flatMap (ruleV R) ++ ruleV R (itR R x i.toNat)[j.toNat] := by
        rw [List.take_succ_eq_append_getElem hlt, flat_snoc1]
      refine RowI.get (hlb.grow hb8) hj0 (by omega) ?_
      rw [getD_lt hlt]
      generalize hy : (itR R x i.toNat)[j.toNat] = y at hsn
      refine new_set ?_
      intro ad w9 hc9 hb89
      have hb9 := hb8.trans (hb89.mono hb8.size)
      have hbw9 := hb.trans (hb9.mono hb.size)
      refine (c_IndexFuncS (ha.grow hbw9) hRl (φ := headIs y) (fun L hL r hr => c_ruleL2 hr (hR.row L hL).1 hc9)).mono ?_
      rintro e w10 ⟨rfl, hb910⟩
      refine ⟨_, rfl, ?_⟩
      have hb10 := hb9.trans (hb910.mono hb9.size)
      have hbw10 := hb.trans (hb10.mono hb.size)
      have hnx10 := (Own.grow hnx hb89).grow hb910
      have fin : ∀ (nx' : Sl) (w11 : World), OwnI w11 w'.heap.size nx' (((itR R x i.toNat).take (j.toNat + 1)).flatMap (ruleV R)) → Below w'.heap.size w' w11 → ∀ Q, (∀ z : Value, z = Sl.nil.v → RuleCountsV R x n = [] → Q .ret [(6, z)] w11) → impl_RuleCounts.J14 std a o nx' n i lb ((itR R x i.toNat).length : Int) j w11 (fun e2 w2 => ∃ next_9_n t37_n, e2 = impl_RuleCounts.emb9 a o next_9_n n i lb ((itR R x i.toNat).length : Int) t37_n ∧ (0 ≤ t37_n ∧ t37_n ≤ (itR R x i.toNat).length ∧ Below w'.heap.size w' w2 ∧ OwnI w2 w'.heap.size next_9_n (((itR R x i.toNat).take t37_n.toNat).flatMap (ruleV R)) ∧ (((itR R x i.toNat).take t37_n.toNat).flatMap (ruleV R)).length ≤ 5000) ∧ ((itR R x i.toNat).length - t37_n).toNat < ((itR R x i.toNat).length - j).toNat) Q := by
        intro nx' w11 hnx' hb11 Q hQ
        rw [impl_RuleCounts.J14_s]
        have hnn : nx'.n = (((itR R x i.toNat).take (j.toNat + 1)).flatMap (ruleV R)).length := by have := hnx'.n; simpa using this
        rw [hnn]
        refine bif_dec (fun h6 => ?_) (fun h6 => ?_)
        · refine hQ _ rfl ?_
          rw [RuleCountsV, if_neg]
          rintro ⟨_, h7⟩
          have h8 := h7 (i.toNat + 1) (by omega)
          have h9 := flat_take_mono (itR R x i.toNat) (ruleV R) (j.toNat + 1)
          rw [itR, stepR] at h8
          omega
        · refine ⟨nx', j + 1, by rw [w64_succ hj0 (by omega)], ⟨by omega, by omega, hb11, ?_, ?_⟩, by omega⟩
          · rw [show (j + 1).toNat = j.toNat + 1 by omega]; exact hnx'
          · rw [show (j + 1).toNat = j.toNat + 1 by omega]; omega
      have Qok : ∀ (w11 : World), Below w'.heap.size w' w11 → ∀ z : Value, z = Sl.nil.v → RuleCountsV R x n = [] → ∃ s : Sl, Ending.returned z = .returned s.v ∧ OwnI w11 w.heap.size s (RuleCountsV R x n) ∧ Below w.heap.size w w11 := fun w11 hb11 z hz h0 => ⟨Sl.nil, by rw [hz], by rw [h0]; exact Own.nil _ _ _, hb.trans (hb11.mono hb.size)⟩
      refine bif_intro (fun h6 => ?_) (fun h6 => ?_)
      · have h6 : 0 ≤ idxF (headIs y) R := by simpa using h6
        have hfl : R.findIdx (headIs y) < R.length := by
          unfold idxF at h6
          split at h6
          · assumption
          · omega
        have hix : idxF (headIs y) R = R.findIdx (headIs y) := by rw [idxF, if_pos hfl]
        rw [hix]
        refine RowSS.get (ha.grow hbw10) (by omega) (by omega) fun r hr => ?_
        rw [Int.toNat_natCast] at hr
        have hrv : ruleV R y = (R.getD (R.findIdx (headIs y)) []).drop 1 := by rw [ruleV, if_pos hfl]
        have hro := hR.row _ (List.getElem_mem hfl)
        rw [getD_SS hfl] at hr hrv
        refine tail_cut hr hro.1 fun t ht => ?_
        refine append_row oneInt hnx10 hb10.size ht (fun v hv => by obtain ⟨x, _, rfl⟩ := List.mem_map.1 hv; exact One.int x) (by rw [List.length_map, List.length_map, List.length_drop]; omega) ?_
        intro o4 w11 ho4 hg4 _ _
        have hb11 := hb10.grown hg4 hb10.size (fun g hg => (hnx10.lt g hg).1)
        refine fin o4 w11 ?_ hb11 _ fun z hz h0 => ?_
        · rw [hsn, hrv]
          rw [← List.map_append] at ho4
          exact ho4
        · rw [impl_RuleCounts.R9_s, impl_RuleCounts.R6_s]; exact Qok w11 hb11 z hz h0
      · have h6 : ¬ 0 ≤ idxF (headIs y) R := by simpa using h6
        have hfl : ¬ R.findIdx (headIs y) < R.length := fun hh => h6 (by rw [idxF, if_pos hh]; omega)
        refine fin nx w10 ?_ hb10 _ fun z hz h0 => ?_
        · rw [hsn, ruleV, if_neg hfl, List.append_nil]; exact hnx10
        · rw [impl_RuleCounts.R9_s, impl_RuleCounts.R6_s]; exact Qok w10 hb10 z hz h0
    · rw [impl_RuleCounts.A9_2_s]
      rw [show j.toNat = (itR R x i.toNat).length by omega, List.take_length] at hnx hs8
      have hnn : nx.n = ((itR R x i.toNat).flatMap (ruleV R)).length := by have := hnx.n; simpa using this
      rw [hnn]
      have ho8 := Own.grow ho hb8
      refine append_int ho8 hbw8.size (by rw [lensR_len]; omega) ?_
      intro o' w9 ho9 hg9 _
      have hnx9 : OwnI w9 w'.heap.size nx ((itR R x i.toNat).flatMap (ruleV R)) := Own.keeps hnx (keeps_grown hg9) (fun g hg hg2 => by have := (ho.lt g hg2).2; have := (hnx.lt g hg).1; omega)
      refine ⟨nx, o', i + 1, by rw [w64_succ hi0 (by omega)], ⟨by omega, by omega, hbw8.grown hg9 hbw8.size (fun g hg => (ho8.lt g hg).1), ?_, ?_, ?_⟩, by omega⟩
      · rw [e1, itR, stepR]; exact hnx9.row
      · rw [e1, lensR_succ, lenR, itR, stepR]; exact ho9
      · rw [e1]; exact hsm.succ (by rw [itR, stepR]; exact hs8)
  · rw [impl_RuleCounts.A6_0_s]
    rw [show i.toNat = n by omega] at ho hsm
    exact ⟨o, rfl, by rw [RuleCountsV, if_pos ⟨hR, by rw [Int.toNat_natCast]; exact hsm⟩, Int.toNat_natCast]; exact ho, hb⟩
theorem lawC_FnExactRuleCounts (a0 : Sl) (L0 : List (List Int)) (k1 : Int) (hk1 : -9223372036854775808 ≤ k1 ∧ k1 ≤ 9223372036854775807) (k2 : Int) (hk2 : -9223372036854775808 ≤ k2 ∧ k2 ≤ 9223372036854775807) (w : World) (ha0 : RowSS w a0 L0) (hbd0 : L0.length ≤ maxLen ∧ ∀ M ∈ L0, M.length ≤ maxLen ∧ ∀ x ∈ M, -9223372036854775808 ≤ x ∧ x ≤ 9223372036854775807) :
    Calls PP F.laws_FnExactRuleCounts #[a0.v, vI k1, vI k2] w fun e w' => e = .returned (.bool true) ∧ Below w.heap.size w w' := by
  have han0 := ha0.n
  refine laws_FnExactRuleCounts.calls a0 k1 k2 ?_
  rw [laws_FnExactRuleCounts.E_s]
  have b_0_0 : Below w.heap.size w w := Below.refl _ _
  refine Quiet.call1 (s := .int .i64) (c_szIntSS (ha0.grow b_0_0) hbd0.1 (fun M hM => (hbd0.2 M hM).1) (left := 1048576) (by omega) (by omega)) ?_
  intro w1 hd1
  have s_0 : Below w.heap.size w w1 := hd1.below _
  have b_0_1 := b_0_0.trans (s_0.mono b_0_0.size)
  refine bif_dec (fun h => ⟨rfl, b_0_1⟩) (fun hsz0 => ?_)
  obtain ⟨hz0, ez0⟩ := szW_ok (LL := L0) (by omega) hsz0
  have hn0 : L0.length < 2^38 := by omega
  have htt0 : tot L0 < 2^38 := by omega
  have b_1_1 : Below w1.heap.size w1 w1 := Below.refl _ _
  refine (c_toIntSS (ha0.grow b_0_1) hn0 htt0).mono ?_
  rintro e w2 ⟨xw0, rfl, ⟨rsxw0, hxw0⟩, s_1⟩
  refine ⟨xw0, rfl, ?_⟩
  have b_0_2 := b_0_1.trans (s_1.mono b_0_1.size)
  have b_1_2 := b_1_1.trans (s_1.mono b_1_1.size)
  have b_2_2 : Below w2.heap.size w2 w2 := Below.refl _ _
  refine (c_specRuleCounts (hxw0.row.grow b_2_2) (by omega) (by omega) k1 k2).mono ?_
  rintro e w3 ⟨w0, rfl, hw0, s_2⟩
  refine ⟨w0, rfl, ?_⟩
  have b_0_3 := b_0_2.trans (s_2.mono b_0_2.size)
  have b_1_3 := b_1_2.trans (s_2.mono b_1_2.size)
  have b_2_3 := b_2_2.trans (s_2.mono b_2_2.size)
  have b_3_3 : Below w3.heap.size w3 w3 := Below.refl _ _
  refine (c_toIntSS (ha0.grow b_0_3) hn0 htt0).mono ?_
  rintro e w4 ⟨xx0, rfl, ⟨rsxx0, hxx0⟩, s_3⟩
  refine ⟨xx0, rfl, ?_⟩
  have b_0_4 := b_0_3.trans (s_3.mono b_0_3.size)
  have b_1_4 := b_1_3.trans (s_3.mono b_1_3.size)
  have b_2_4 := b_2_3.trans (s_3.mono b_2_3.size)
  have b_3_4 := b_3_3.trans (s_3.mono b_3_3.size)
  have b_4_4 : Below w4.heap.size w4 w4 := Below.refl _ _
  refine (c_implRuleCounts (hxx0.row.grow b_4_4) (by omega) (by omega) k1 k2).mono ?_
  rintro e w5 ⟨g0, rfl, hg0, s_4⟩
  refine ⟨g0, rfl, ?_⟩
  have b_0_5 := b_0_4.trans (s_4.mono b_0_4.size)
  have b_1_5 := b_1_4.trans (s_4.mono b_1_4.size)
  have b_2_5 := b_2_4.trans (s_4.mono b_2_4.size)
  have b_3_5 := b_3_4.trans (s_4.mono b_3_4.size)
  have b_4_5 := b_4_4.trans (s_4.mono b_4_4.size)
  have b_5_5 : Below w5.heap.size w5 w5 := Below.refl _ _
  have hv0 : (RuleCountsV L0 k1 k2).length < 2^38 := RuleCountsV_len L0 k1 k2
  refine Quiet.call1 (s := .bool) (c_eqIntS (hg0.row.grow b_5_5) (hw0.grow b_3_5) (by omega)) ?_
  intro w6 hd6
  have s_5 : Below w5.heap.size w5 w6 := hd6.below _
  have b_0_6 := b_0_5.trans (s_5.mono b_0_5.size)
  have b_1_6 := b_1_5.trans (s_5.mono b_1_5.size)
  have b_2_6 := b_2_5.trans (s_5.mono b_2_5.size)
  have b_3_6 := b_3_5.trans (s_5.mono b_3_5.size)
  have b_4_6 := b_4_5.trans (s_5.mono b_4_5.size)
  have b_5_6 := b_5_5.trans (s_5.mono b_5_5.size)
  refine bif_f (by simp) ?_
  have b_6_6 : Below w6.heap.size w6 w6 := Below.refl _ _
  refine (c_toIntSS (ha0.grow b_0_6) hn0 htt0).mono ?_
  rintro e w7 ⟨y0, rfl, hy0, s_6⟩
  refine ⟨y0, rfl, ?_⟩
  have b_0_7 := b_0_6.trans (s_6.mono b_0_6.size)
  have b_1_7 := b_1_6.trans (s_6.mono b_1_6.size)
  have b_2_7 := b_2_6.trans (s_6.mono b_2_6.size)
  have b_3_7 := b_3_6.trans (s_6.mono b_3_6.size)
  have b_4_7 := b_4_6.trans (s_6.mono b_4_6.size)
  have b_5_7 := b_5_6.trans (s_6.mono b_5_6.size)
  have b_6_7 := b_6_6.trans (s_6.mono b_6_6.size)
  refine Quiet.call1 (s := .bool) (c_eqIntSS (hxx0.row.grow b_4_7) hy0.row (by omega) (by omega)) ?_
  intro w8 hd8
  have s_7 : Below w7.heap.size w7 w8 := hd8.below _
  have b_0_8 := b_0_7.trans (s_7.mono b_0_7.size)
  have b_1_8 := b_1_7.trans (s_7.mono b_1_7.size)
  have b_2_8 := b_2_7.trans (s_7.mono b_2_7.size)
  have b_3_8 := b_3_7.trans (s_7.mono b_3_7.size)
  have b_4_8 := b_4_7.trans (s_7.mono b_4_7.size)
  have b_5_8 := b_5_7.trans (s_7.mono b_5_7.size)
  have b_6_8 := b_6_7.trans (s_7.mono b_6_7.size)
  refine bif_f (by simp) ?_
  have hxx0m := hxx0.grow b_4_8
  have hg0m := hg0.grow b_5_8
  refine (c_markIntSS hxx0m (by omega) (by omega) (k := 1) (by omega) (by omega)).mono ?_
  rintro e w9 ⟨rfl, _, ks_9, hz_9⟩
  refine ⟨_, rfl, ?_⟩
  have lo_9 : ∀ g, (∃ r ∈ rsxx0, r.blk = some g) → w3.heap.size ≤ g := (fun g e => by obtain ⟨r, hr, e⟩ := e; exact (hxx0.lt hr e).1)
  have hi_9 : ∀ g, (∃ r ∈ rsxx0, r.blk = some g) → g < w4.heap.size := (fun g e => by obtain ⟨r, hr, e⟩ := e; exact (hxx0.lt hr e).2)
  have b_0_9 := b_0_8.trans (ks_9.below (B := w.heap.size) (fun g e => Nat.le_trans b_0_3.size (lo_9 g e)) b_0_8.size)
  have b_1_9 := b_1_8.trans (ks_9.below (B := w1.heap.size) (fun g e => Nat.le_trans b_1_3.size (lo_9 g e)) b_1_8.size)
  have b_2_9 := b_2_8.trans (ks_9.below (B := w2.heap.size) (fun g e => Nat.le_trans b_2_3.size (lo_9 g e)) b_2_8.size)
  have b_3_9 := b_3_8.trans (ks_9.below (B := w3.heap.size) (fun g e => Nat.le_trans b_3_3.size (lo_9 g e)) b_3_8.size)
  have hg0m := hg0m.keeps ks_9 (fun g e1 e2 => by have := hi_9 g e2; have := (hg0.lt g e1).1; have := b_4_4.size; omega)
  refine bif_dec (fun h => by omega) (fun h => ?_)
  have b_9_9 : Below w9.heap.size w9 w9 := Below.refl _ _
  have hg0 := hg0m
  refine Quiet.call1 (s := .bool) (c_eqIntS (hg0.row.grow b_9_9) (hw0.grow b_3_9) (by omega)) ?_
  intro w10 hd10
  have s_9 : Below w9.heap.size w9 w10 := hd10.below _
  have b_0_10 := b_0_9.trans (s_9.mono b_0_9.size)
  have b_1_10 := b_1_9.trans (s_9.mono b_1_9.size)
  have b_2_10 := b_2_9.trans (s_9.mono b_2_9.size)
  have b_3_10 := b_3_9.trans (s_9.mono b_3_9.size)
  have b_9_10 := b_9_9.trans (s_9.mono b_9_9.size)
  refine bif_f (by simp) ?_
  have hg0p := hg0.grow b_9_10
  have b_10_10 : Below w10.heap.size w10 w10 := Below.refl _ _
  refine (c_markIntS hg0p (by omega) (k := 1) (by omega) (by omega)).mono ?_
  rintro e w11 ⟨rfl, hq0, hg_11, hz_11⟩
  have ks_11 := keeps_grown hg_11
  refine ⟨_, rfl, ?_⟩
  have lo_11 : ∀ g, g0.blk = some g → w4.heap.size ≤ g := (fun g e => (hg0p.lt g e).1)
  have b_0_11 := b_0_10.trans (ks_11.below (B := w.heap.size) (fun g e => Nat.le_trans b_0_4.size (lo_11 g e)) b_0_10.size)
  have b_1_11 := b_1_10.trans (ks_11.below (B := w1.heap.size) (fun g e => Nat.le_trans b_1_4.size (lo_11 g e)) b_1_10.size)
  have b_2_11 := b_2_10.trans (ks_11.below (B := w2.heap.size) (fun g e => Nat.le_trans b_2_4.size (lo_11 g e)) b_2_10.size)
  have b_3_11 := b_3_10.trans (ks_11.below (B := w3.heap.size) (fun g e => Nat.le_trans b_3_4.size (lo_11 g e)) b_3_10.size)
  have b_11_11 : Below w11.heap.size w11 w11 := Below.refl _ _
  refine Quiet.call1 (s := .int .i64) (c_heldIntS (n := (RuleCountsV L0 k1 k2).length) (hq0.row.grow b_11_11) (by omega) (by omega) (by omega)) ?_
  intro w12 hd12
  have s_11 : Below w11.heap.size w11 w12 := hd12.below _
  have b_0_12 := b_0_11.trans (s_11.mono b_0_11.size)
  have b_1_12 := b_1_11.trans (s_11.mono b_1_11.size)
  have b_2_12 := b_2_11.trans (s_11.mono b_2_11.size)
  have b_3_12 := b_3_11.trans (s_11.mono b_3_11.size)
  have b_11_12 := b_11_11.trans (s_11.mono b_11_11.size)
  refine bif_dec (fun h => by omega) (fun h => ?_)
  refine bif_f (by simp) ?_
  have b_12_12 : Below w12.heap.size w12 w12 := Below.refl _ _
  refine (c_toIntSS (ha0.grow b_0_12) hn0 htt0).mono ?_
  rintro e w13 ⟨xv0, rfl, ⟨rsxv0, hxv0⟩, s_12⟩
  refine ⟨xv0, rfl, ?_⟩
  have b_0_13 := b_0_12.trans (s_12.mono b_0_12.size)
  have b_1_13 := b_1_12.trans (s_12.mono b_1_12.size)
  have b_2_13 := b_2_12.trans (s_12.mono b_2_12.size)
  have b_3_13 := b_3_12.trans (s_12.mono b_3_12.size)
  have b_11_13 := b_11_12.trans (s_12.mono b_11_12.size)
  have b_12_13 := b_12_12.trans (s_12.mono b_12_12.size)
  have b_13_13 : Below w13.heap.size w13 w13 := Below.refl _ _
  refine (c_implRuleCounts (hxv0.row.grow b_13_13) (by omega) (by omega) k1 k2).mono ?_
  rintro e w14 ⟨h0, rfl, hh0, s_13⟩
  refine ⟨h0, rfl, ?_⟩
  have b_0_14 := b_0_13.trans (s_13.mono b_0_13.size)
  have b_1_14 := b_1_13.trans (s_13.mono b_1_13.size)
  have b_2_14 := b_2_13.trans (s_13.mono b_2_13.size)
  have b_3_14 := b_3_13.trans (s_13.mono b_3_13.size)
  have b_11_14 := b_11_13.trans (s_13.mono b_11_13.size)
  have b_12_14 := b_12_13.trans (s_13.mono b_12_13.size)
  have b_13_14 := b_13_13.trans (s_13.mono b_13_13.size)
  have b_14_14 : Below w14.heap.size w14 w14 := Below.refl _ _
  refine Quiet.call1 (s := .bool) (c_eqIntS (hh0.row.grow b_14_14) (hw0.grow b_3_14) (by omega)) ?_
  intro w15 hd15
  have s_14 : Below w14.heap.size w14 w15 := hd15.below _
  have b_0_15 := b_0_14.trans (s_14.mono b_0_14.size)
  have b_1_15 := b_1_14.trans (s_14.mono b_1_14.size)
  have b_2_15 := b_2_14.trans (s_14.mono b_2_14.size)
  have b_3_15 := b_3_14.trans (s_14.mono b_3_14.size)
  have b_11_15 := b_11_14.trans (s_14.mono b_11_14.size)
  have b_12_15 := b_12_14.trans (s_14.mono b_12_14.size)
  have b_13_15 := b_13_14.trans (s_14.mono b_13_14.size)
  have b_14_15 := b_14_14.trans (s_14.mono b_14_14.size)
  refine bif_f (by simp) ?_
  refine Quiet.call1 (s := .int .i64) (c_heldIntS (n := (RuleCountsV L0 k1 k2).length) (hq0.row.grow b_11_15) (by omega) (by omega) (by omega)) ?_
  intro w16 hd16
  have s_15 : Below w15.heap.size w15 w16 := hd16.below _
  have b_0_16 := b_0_15.trans (s_15.mono b_0_15.size)
  have b_1_16 := b_1_15.trans (s_15.mono b_1_15.size)
  have b_2_16 := b_2_15.trans (s_15.mono b_2_15.size)
  have b_3_16 := b_3_15.trans (s_15.mono b_3_15.size)
  have b_11_16 := b_11_15.trans (s_15.mono b_11_15.size)
  have b_12_16 := b_12_15.trans (s_15.mono b_12_15.size)
  have b_13_16 := b_13_15.trans (s_15.mono b_13_15.size)
  have b_14_16 := b_14_15.trans (s_15.mono b_14_15.size)
  refine bif_dec (fun h => by omega) (fun h => ?_)
  refine bif_f (by simp) ?_
  exact ⟨rfl, b_0_16⟩
end Go.Proofs.Ythbjkgpbnfibkaa
