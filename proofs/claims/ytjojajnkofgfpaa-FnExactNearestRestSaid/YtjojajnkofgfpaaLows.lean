/- The places of the lows: both texts. -/
import Derived.Test.YtjojajnkofgfpaaCodeLo
import Derived.Test.YtjojajnkofgfpaaFnVal
import Derived.Test.YtjojajnkofgfpaaPermMath
import Derived.Test.YtjojajnkofgfpaaLaw1
namespace Go.Proofs.Ytjojajnkofgfpaa
open Go Go.RowKit
set_option maxRecDepth 100000

/-- Is no earlier number less? -/
def isLow (L : List Int) (i : Nat) : Bool := (List.range i).all fun j => !decide (L.getD j 0 < L.getD i 0)
theorem isLow_iff {L : List Int} {i : Nat} : isLow L i = true ↔ ∀ j, j < i → ¬ L.getD j 0 < L.getD i 0 := by simp [isLow]
def lowsT (L : List Int) : Nat → List Int
  | 0 => []
  | k + 1 => if isLow L k then lowsT L k ++ [(k : Int) + 1] else lowsT L k
theorem lowsT_length (L : List Int) : ∀ k, (lowsT L k).length ≤ k
  | 0 => by simp [lowsT]
  | k + 1 => by
    have := lowsT_length L k
    rw [lowsT]
    split
    · simp; omega
    · omega
theorem mem_lowsT {L : List Int} : ∀ {k : Nat} {x : Int}, x ∈ lowsT L k ↔ 1 ≤ x ∧ x ≤ k ∧ isLow L (x - 1).toNat = true
  | 0, x => by simp [lowsT]; omega
  | k + 1, x => by
    rw [lowsT]
    have ih := mem_lowsT (L := L) (k := k) (x := x)
    split
    · rename_i h
      rw [List.mem_append, ih]
      simp only [List.mem_singleton]
      constructor
      · rintro (⟨h1, h2, h3⟩ | rfl)
        · exact ⟨h1, by omega, h3⟩
        · exact ⟨by omega, by omega, by rw [show ((k : Int) + 1 - 1).toNat = k by omega]; exact h⟩
      · rintro ⟨h1, h2, h3⟩
        by_cases e : x = (k : Int) + 1
        · exact .inr e
        · exact .inl ⟨h1, by omega, h3⟩
    · rename_i h
      rw [ih]
      constructor
      · rintro ⟨h1, h2, h3⟩; exact ⟨h1, by omega, h3⟩
      · rintro ⟨h1, h2, h3⟩
        refine ⟨h1, ?_, h3⟩
        by_cases e : x = (k : Int) + 1
        · subst e
          rw [show ((k : Int) + 1 - 1).toNat = k by omega] at h3
          exact absurd h3 h
        · omega
open Classical in
noncomputable def LowsV (L : List Int) : List Int := if IsP L then lowsT L L.length else []
/-- The least of the first k. -/
def leastT (L : List Int) : Nat → Int
  | 0 => (L.length : Int) + 1
  | k + 1 => if L.getD k 0 < leastT L k then L.getD k 0 else leastT L k
theorem leastT_le (L : List Int) : ∀ k j, j < k → leastT L k ≤ L.getD j 0
  | k + 1, j, hj => by
    rw [leastT]
    by_cases e : j = k
    · subst e; split <;> omega
    · have := leastT_le L k j (by omega)
      split <;> omega
theorem leastT_mem (L : List Int) : ∀ k, leastT L k = (L.length : Int) + 1 ∨ ∃ j, j < k ∧ leastT L k = L.getD j 0
  | 0 => .inl rfl
  | k + 1 => by
    rw [leastT]
    split
    · exact .inr ⟨k, by omega, rfl⟩
    · rcases leastT_mem L k with h | ⟨j, h1, h2⟩
      · exact .inl h
      · exact .inr ⟨j, by omega, h2⟩
theorem low_least {L : List Int} (h : IsP L) {k : Nat} (hk : k < L.length) : L.getD k 0 < leastT L k ↔ isLow L k = true := by
  rw [isLow_iff]
  constructor
  · intro h1 j hj h2
    have := leastT_le L k j hj
    omega
  · intro h1
    rcases leastT_mem L k with h2 | ⟨j, h2, h3⟩
    · have := (h.2 k hk).2.1; omega
    · have := h1 j h2
      have := (h.2 k hk).2.2 j h2
      omega

theorem c_lowL1 {w0 : World} {a : Sl} {L : List Int} {p : Addr} (ha : RowI w0 a L) (hL : L.length < 2^38) (hp : w0.cell? p = some a.v) {i : Nat} (hi : i < L.length) :
    FnB w0 (.func (.func F.impl_LowsOfL1) #[] #[.pointer (some p)]) [vI i] (isLow L i) := by
  intro w hb
  have han : a.n = L.length := by have := ha.n; simpa using this
  refine ⟨_, _, _, rfl, by kernel_rfl, ?_⟩
  show Calls PP F.impl_LowsOfL1 #[vI i, .pointer (some p)] w _
  refine impl_LowsOfL1.calls i p ?_
  rw [impl_LowsOfL1.E_s]
  have haw := ha.grow hb
  have hpw := cell_grow hp hb
  refine load_sl hpw ?_
  refine Row.cut haw (by simp) (by simp <;> omega) (by simp <;> omega) ?_
  intro s2 hs2
  have e2 : (List.take ((some (i : Int)).getD (a.n : Int)).toNat (L.map vI)).drop ((none : Option Int).getD 0).toNat = (L.take i).map vI := by simp
  rw [e2] at hs2
  have hn2 : s2.n = i := by have := hs2.n; simp at this; omega
  rw [hn2]
  refine impl_LowsOfL1.L2_rule _ _ _ _ _ _ _ (I := fun k w' => w' = w ∧ 0 ≤ k ∧ k ≤ i ∧ ∀ j, j < k.toNat → ¬ L.getD j 0 < L.getD i 0) (μ := fun k _ => (i - k).toNat) ⟨rfl, by omega, by omega, fun j hj => by simp at hj⟩ ?_
  rintro k w' ⟨rfl, h0, hk, hall⟩
  rw [impl_LowsOfL1.B2_s]
  refine bif_dec (fun h3 => ?_) (fun h3 => ?_)
  · refine RowI.get hs2 h0 (by simp; omega) ?_
    have e3 : (L.take i).getD k.toNat 0 = L.getD k.toNat 0 := by
      simp only [List.getD_eq_getElem?_getD, List.getElem?_take]
      rw [if_pos (by omega)]
    rw [e3]
    refine load_sl hpw ?_
    refine RowI.get haw (by omega) (by omega) ?_
    rw [Int.toNat_natCast]
    refine bif_dec (fun h4 => ?_) (fun h4 => ?_)
    · rw [impl_LowsOfL1.R2_s]
      have : isLow L i = false := by
        cases hl : isLow L i
        · rfl
        · exact absurd h4 (isLow_iff.1 hl k.toNat (by omega))
      exact ⟨by rw [this], Below.refl _ _⟩
    · refine ⟨k + 1, by rw [w64_succ h0 (by omega)], ⟨rfl, by omega, by omega, fun j hj => ?_⟩, by omega⟩
      by_cases e : j = k.toNat
      · rw [e]; exact h4
      · exact hall j (by omega)
  · rw [impl_LowsOfL1.A2_0_s]
    have : isLow L i = true := isLow_iff.2 fun j hj => hall j (by omega)
    exact ⟨by rw [this], Below.refl _ _⟩
theorem c_implLowsOf {w : World} {a : Sl} {L : List Int} (ha : RowI w a L) (hL : L.length < 2^38) :
    Calls PP F.impl_LowsOf #[a.v] w fun e w' => ∃ s : Sl, e = .returned s.v ∧ OwnI w' w.heap.size s (LowsV L) ∧ Below w.heap.size w w' := by
  have han : a.n = L.length := by have := ha.n; simpa using this
  refine impl_LowsOf.calls a ?_
  rw [impl_LowsOf.E_s]
  refine new_one ?_
  intro p w1 hp hb1
  refine load_sl hp ?_
  have ha1 := ha.grow hb1
  suffices h : Calls PP F.impl_listed #[a.v, .func (.func F.impl_LowsOfL1) #[] #[.pointer (some p)]] w1 fun e w' => ∃ s : Sl, e = .returned s.v ∧ OwnI w' w1.heap.size s (LowsV L) ∧ Below w1.heap.size w1 w' by
    refine h.mono ?_
    rintro e w2 ⟨s, rfl, hs, hb2⟩
    exact ⟨s, rfl, s, rfl, hs.mono hb1.size, hb1.trans (hb2.mono hb1.size)⟩
  refine impl_listed.calls a _ ?_
  rw [impl_listed.E_s, han]
  refine (c_implIsPerm ha1 hL).mono ?_
  rintro e w2 ⟨rfl, hb2⟩
  refine ⟨_, rfl, ?_⟩
  refine bif_intro (fun h => ?_) (fun h => ?_)
  · have h : ¬ IsP L := by simpa using h
    exact ⟨Sl.nil, rfl, by rw [LowsV, if_neg h]; exact Own.nil _ _ _, hb2⟩
  have h : IsP L := by simpa using h
  have h8 := h.1
  refine lit0 oneInt (B := w1.heap.size) hb2.size ?_
  intro o0 w3 ho0 hg3 _
  have hb3 := hb2.grown hg3 hb2.size (by simp)
  refine impl_listed.L5_rule _ _ _ _ _ _ (I := fun o k w' => 0 ≤ k ∧ k ≤ L.length ∧ OwnI w' w1.heap.size o (lowsT L k.toNat) ∧ Below w1.heap.size w1 w') (μ := fun _ k _ => (L.length - k).toNat) ⟨by omega, by omega, ho0, hb3⟩ ?_
  rintro o k w' ⟨h0, hk, ho, hb⟩
  rw [impl_listed.B5_s]
  have hll := lowsT_length L k.toNat
  refine bif_dec (fun h3 => ?_) (fun h3 => ?_)
  · obtain ⟨m, rfl⟩ : ∃ m : Nat, k = m := ⟨k.toNat, by omega⟩
    refine (c_lowL1 ha1 hL hp (i := m) (by omega)).callV1 hb ?_
    intro w4 hb4
    have hb14 := hb.trans (hb4.mono hb.size)
    have ho4 := ho.grow hb4
    rw [Int.toNat_natCast] at ho4 hll
    have hsc : ((m : Int) + 1).toNat = m + 1 := by omega
    refine bif_intro (fun h4 => ?_) (fun h4 => ?_)
    · rw [w64_succ (n := (m : Int)) h0 (by omega)]
      refine append_int ho4 hb14.size (by omega) ?_
      intro o' w5 ho5 hg5 _
      refine ⟨o', (m : Int) + 1, rfl, ⟨by omega, by omega, ?_, hb14.grown hg5 hb14.size (fun g hg => (ho4.lt g hg).1)⟩, by omega⟩
      rw [hsc, lowsT, if_pos h4]; exact ho5
    · refine ⟨o, (m : Int) + 1, by rw [w64_succ h0 (by omega)], ⟨by omega, by omega, ?_, hb14⟩, by omega⟩
      rw [hsc, lowsT, if_neg (by simp [h4])]; exact ho4
  · rw [impl_listed.A5_0_s]
    rw [show k.toNat = L.length by omega] at ho
    exact ⟨o, rfl, by rw [LowsV, if_pos h]; exact ho, hb⟩
open Classical in
theorem c_specLowsOf {w : World} {a : Sl} {L : List Int} (ha : RowI w a L) (hL : L.length < 2^38) :
    Calls PP F.spec_LowsOf #[a.v] w fun e w' => ∃ s : Sl, e = .returned s.v ∧ OwnI w' w.heap.size s (LowsV L) ∧ Below w.heap.size w w' := by
  have han : a.n = L.length := by have := ha.n; simpa using this
  refine spec_LowsOf.calls a ?_
  rw [spec_LowsOf.E_s, han]
  refine lit0 oneInt (B := w.heap.size) (Nat.le_refl _) ?_
  intro o0 w1 ho0 hg1 _
  rw [w64_succ (n := (L.length : Int)) (by omega) (by omega)]
  refine spec_LowsOf.L4_rule _ _ _ _ _ _ (I := fun o le k w' => 0 ≤ k ∧ k ≤ L.length ∧ le = leastT L k.toNat ∧ (0 < k → IsP L) ∧ OwnI w' w.heap.size o (lowsT L k.toNat) ∧ Below w.heap.size w w') (μ := fun _ _ k _ => (L.length - k).toNat)
    ⟨by omega, by omega, rfl, fun h => by omega, ho0, below_of_grow hg1⟩ ?_
  rintro o le k w' ⟨h0, hk, hle, hip, ho, hb⟩
  rw [spec_LowsOf.B4_s, han]
  have hll := lowsT_length L k.toNat
  refine bif_dec (fun h3 => ?_) (fun h3 => ?_)
  · have hlt : k.toNat < L.length := by omega
    refine Quiet.call1 (s := .bool) (c_specIsPerm (ha.grow hb) hL) ?_
    intro w2 hd
    have hb2 := hb.trans (hd.below _)
    have ho2 := ho.heap hd.heap'
    refine bif_dec (fun h4 => ?_) (fun h4 => ?_)
    · refine RowI.get (ha.grow hb2) h0 (by omega) ?_
      have hsc : (k + 1).toNat = k.toNat + 1 := by omega
      have hiff := low_least h4 hlt
      refine bif_dec (fun h5 => ?_) (fun h5 => ?_)
      · refine RowI.get (ha.grow hb2) h0 (by omega) ?_
        rw [hle] at h5
        rw [w64_succ (n := k) h0 (by omega)]
        refine append_int ho2 hb2.size (by omega) ?_
        intro o' w3 ho3 hg3 _
        refine ⟨o', _, k + 1, rfl, ⟨by omega, by omega, by rw [hsc, leastT, if_pos h5], fun _ => h4, ?_, hb2.grown hg3 hb2.size (fun g hg => (ho2.lt g hg).1)⟩, by omega⟩
        rw [hsc, lowsT, if_pos (hiff.1 h5), show ((k.toNat : Nat) : Int) + 1 = k + 1 by omega]
        exact ho3
      · rw [hle] at h5
        refine ⟨o, le, k + 1, by rw [w64_succ h0 (by omega)], ⟨by omega, by omega, by rw [hsc, leastT, if_neg h5, hle], fun _ => h4, ?_, hb2⟩, by omega⟩
        rw [hsc, lowsT, if_neg (fun h => h5 (hiff.2 h))]
        exact ho2
    · rw [spec_LowsOf.A4_0_s]
      have hk0 : k = 0 := by
        apply Classical.byContradiction
        intro hne
        exact h4 (hip (by omega))
      subst hk0
      exact ⟨o, rfl, by rw [LowsV, if_neg h4]; exact ho2, hb2⟩
  · rw [spec_LowsOf.A4_0_s]
    have hkl : k.toNat = L.length := by omega
    rw [hkl] at ho
    refine ⟨o, rfl, ?_, hb⟩
    unfold LowsV
    split
    · exact ho
    · rename_i hn
      have : L.length = 0 := by
        apply Classical.byContradiction
        intro hne
        exact hn (hip (by omega))
      rw [this] at ho
      exact ho
end Go.Proofs.Ytjojajnkofgfpaa
