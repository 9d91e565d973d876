/- KnownCounts: both texts, and the law. -/
import Derived.Test.YthbjkgpbnfibkaaCodeKn
import Derived.Test.YthbjkgpbnfibkaaL1
import Derived.Test.YthbjkgpbnfibkaaMem
import Derived.Test.YthbjkgpbnfibkaaWilf
import Derived.Deep.MidRow
import Derived.Deep.WholeRow
namespace Go.Proofs.Ythbjkgpbnfibkaa
open Go Go.RowKit
set_option maxRecDepth 100000

def fibP : Nat → Int × Int
  | 0 => (1, 1)
  | k + 1 => ((fibP k).2, w64 ((fibP k).1 + (fibP k).2))
def fibV (n : Int) : Int := if n < 0 ∨ 40 < n then -1 else (fibP n.toNat).1

theorem c_implFib (n : Int) : Pure F.impl_FibonacciNumber #[vI n] (vI (fibV n)) := by
  intro w
  refine impl_FibonacciNumber.calls n ?_
  rw [impl_FibonacciNumber.E_s]
  refine bif_dec (fun h => ?_) (fun h => bif_dec (fun h2 => ?_) (fun h2 => ?_))
  · simp [fibV, h]
  · have : ¬ n < 0 := h
    simp [fibV, h2]
  refine impl_FibonacciNumber.L5_rule _ _ _ _ _ _ (I := fun a b k w' => w' = w ∧ 0 ≤ k ∧ k ≤ n ∧ (a, b) = fibP k.toNat) (μ := fun _ _ k _ => (n - k).toNat) ⟨rfl, by omega, by omega, rfl⟩ ?_
  rintro a b k w' ⟨rfl, h0, hk, he⟩
  rw [impl_FibonacciNumber.B5_s]
  refine bif_dec (fun h3 => ?_) (fun h3 => ?_)
  · refine ⟨b, w64 (a + b), k + 1, ?_, ⟨rfl, by omega, by omega, ?_⟩, by omega⟩
    · simp only [w64_succ h0 (by omega)]
    · have : (k + 1).toNat = k.toNat + 1 := by omega
      simp only [this, fibP, ← he]
  · rw [impl_FibonacciNumber.A5_0_s]
    have : k = n := by omega
    subst this
    have h4 : ¬ k < 0 := h
    simp only [fibV, ← he]
    simp; omega

theorem c_specFib (n : Int) : Pure F.spec_FibonacciNumber #[vI n] (vI (fibV n)) := by
  intro w
  refine spec_FibonacciNumber.calls n ?_
  rw [spec_FibonacciNumber.E_s]
  refine Pure.pcall1 (s := .bool) (c_l1In n 0 40) ?_
  refine bif_intro (fun h => ?_) (fun h => ?_)
  · have : n < 0 ∨ 40 < n := by simp at h; omega
    simp [fibV, this]
  have h : 0 ≤ n ∧ n ≤ 40 := by simpa using h
  refine spec_FibonacciNumber.L6_rule _ _ _ _ _ _ (I := fun a b k w' => w' = w ∧ 1 ≤ k ∧ (k ≤ n ∨ k = 1) ∧ (a, b) = fibP (k.toNat - 1)) (μ := fun _ _ k _ => (n - k).toNat) ⟨rfl, by omega, by simp, rfl⟩ ?_
  rintro a b k w' ⟨rfl, h0, hk, he⟩
  rw [spec_FibonacciNumber.B6_s]
  refine bif_dec (fun h3 => ?_) (fun h3 => ?_)
  · refine ⟨b, w64 (a + b), k + 1, ?_, ⟨rfl, by omega, by omega, ?_⟩, by omega⟩
    · simp only [w64_succ (by omega : 0 ≤ k) (by omega)]
    · have : (k + 1).toNat - 1 = (k.toNat - 1) + 1 := by omega
      simp only [this, fibP, ← he]
  · rw [spec_FibonacciNumber.A6_0_s]
    have hn : ¬ (n < 0 ∨ 40 < n) := by omega
    refine ⟨?_, rfl⟩
    simp only [fibV, if_neg hn]
    rcases Nat.lt_or_ge 0 n.toNat with h5 | h5
    · have : k.toNat - 1 + 1 = n.toNat := by omega
      rw [← this, fibP, ← he]
    · have : n.toNat = 0 ∧ k.toNat - 1 = 0 := by omega
      rw [this.2] at he
      rw [this.1]
      simp only [fibP] at *
      simp_all

def chP (n : Int) : Nat → Int
  | 0 => 1
  | k + 1 => w64 ((w64 (chP n k * w64 (n - k))).tdiv (w64 ((k : Int) + 1)))
def chV (n k : Int) : Int := if n < 0 ∨ 40 < n ∨ k < 0 ∨ n < k then 0 else chP n k.toNat

theorem c_implChoose (n k : Int) : Pure F.impl_Choose #[vI n, vI k] (vI (chV n k)) := by
  intro w
  refine impl_Choose.calls n k ?_
  rw [impl_Choose.E_s]
  refine bif_dec (fun h => ?_) (fun h1 => bif_dec (fun h => ?_) (fun h2 => bif_dec (fun h => ?_) (fun h3 => bif_dec (fun h => ?_) (fun h4 => ?_))))
  · simp [chV, h]
  · have h : 40 < n := h
    simp [chV, h]
  · simp [chV, h]
  · have h : n < k := h
    simp [chV, h]
  refine impl_Choose.L5_rule _ _ _ _ _ _ (I := fun a i w' => w' = w ∧ 0 ≤ i ∧ i ≤ k ∧ a = chP n i.toNat) (μ := fun _ i _ => (k - i).toNat) ⟨rfl, by omega, by omega, rfl⟩ ?_
  rintro a i w' ⟨rfl, h0, hk, he⟩
  rw [impl_Choose.B5_s]
  refine bif_dec (fun h5 => ?_) (fun h5 => ?_)
  · refine ⟨by rw [w64_succ h0 (by omega)]; omega, w64 ((w64 (a * w64 (n - i))).tdiv (i + 1)), i + 1, by rw [w64_succ h0 (by omega)], ⟨rfl, by omega, by omega, ?_⟩, by omega⟩
    have : (i + 1).toNat = i.toNat + 1 := by omega
    simp only [this, chP, ← he]
    rw [Int.toNat_of_nonneg h0, w64_succ h0 (by omega)]
  · rw [impl_Choose.A5_0_s]
    have : i = k := by omega
    subst this
    refine ⟨?_, rfl⟩
    rw [he, chV, if_neg (by omega)]

theorem c_specChoose (n k : Int) : Pure F.spec_Choose #[vI n, vI k] (vI (chV n k)) := by
  intro w
  refine spec_Choose.calls n k ?_
  rw [spec_Choose.E_s]
  refine Pure.pcall1 (s := .bool) (c_l1In n 0 40) ?_
  refine bif_intro (fun h => ?_) (fun h1 => ?_)
  · have : n < 0 ∨ 40 < n ∨ k < 0 ∨ n < k := by simp at h; omega
    simp [chV, this]
  have h1 : 0 ≤ n ∧ n ≤ 40 := by simpa using h1
  refine Pure.pcall1 (s := .bool) (c_l1In k 0 n) ?_
  refine bif_intro (fun h => ?_) (fun h2 => ?_)
  · have : n < 0 ∨ 40 < n ∨ k < 0 ∨ n < k := by simp at h; omega
    simp [chV, this]
  have h2 : 0 ≤ k ∧ k ≤ n := by simpa using h2
  refine spec_Choose.L5_rule _ _ _ _ _ _ (I := fun a i w' => w' = w ∧ 0 ≤ i ∧ i ≤ k ∧ a = chP n i.toNat) (μ := fun _ i _ => (k - i).toNat) ⟨rfl, by omega, by omega, rfl⟩ ?_
  rintro a i w' ⟨rfl, h0, hk, he⟩
  rw [spec_Choose.B5_s]
  refine bif_dec (fun h5 => ?_) (fun h5 => ?_)
  · refine ⟨by rw [w64_succ h0 (by omega)]; omega, w64 ((w64 (a * w64 (n - i))).tdiv (i + 1)), i + 1, by rw [w64_succ h0 (by omega)], ⟨rfl, by omega, by omega, ?_⟩, by omega⟩
    have : (i + 1).toNat = i.toNat + 1 := by omega
    simp only [this, chP, ← he]
    rw [Int.toNat_of_nonneg h0, w64_succ h0 (by omega)]
  · rw [spec_Choose.A5_0_s]
    have : i = k := by omega
    subst this
    refine ⟨?_, rfl⟩
    rw [he, chV, if_neg (by omega)]

def caV (n : Int) : Int := if n < 0 ∨ 20 < n then -1 else w64 ((chV (w64 (2 * n)) n).tdiv (w64 (n + 1)))
theorem c_implCatalan (n : Int) : Pure F.impl_CatalanNumber #[vI n] (vI (caV n)) := by
  intro w
  refine impl_CatalanNumber.calls n ?_
  rw [impl_CatalanNumber.E_s]
  refine bif_dec (fun h => ?_) (fun h1 => bif_dec (fun h => ?_) (fun h2 => ?_))
  · simp [caV, h]
  · have h : 20 < n := h
    simp [caV, h]
  refine Pure.call1 (s := .int .i64) (c_implChoose _ n) ?_
  refine ⟨by rw [w64_succ (by omega) (by omega)]; omega, ?_, rfl⟩
  rw [caV, if_neg (by omega)]
theorem c_specCatalan (n : Int) : Pure F.spec_CatalanNumber #[vI n] (vI (caV n)) := by
  intro w
  refine spec_CatalanNumber.calls n ?_
  rw [spec_CatalanNumber.E_s]
  refine Pure.pcall1 (s := .bool) (c_l1In n 0 20) ?_
  refine bif_intro (fun h => ?_) (fun h1 => ?_)
  · have : n < 0 ∨ 20 < n := by simp at h; omega
    simp [caV, this]
  have h1 : 0 ≤ n ∧ n ≤ 20 := by simpa using h1
  refine Pure.call1 (s := .int .i64) (c_specChoose _ n) ?_
  refine ⟨by rw [w64_succ (by omega) (by omega)]; omega, ?_, rfl⟩
  rw [caV, if_neg (by omega)]

def scIn (L : List Int) (m : Int) (x : Int) : Nat → Int
  | 0 => x
  | k + 1 => w64 (scIn L m x k + w64 (L.getD k 0 * L.getD (m - 1 - k).toNat 0))
def scL : Nat → List Int
  | 0 => [1]
  | m + 1 => scL m ++ [scIn (scL m) (m + 1) ((scL m).getD m 0) (m + 1)]
theorem scL_length : ∀ m, (scL m).length = m + 1
  | 0 => rfl
  | m + 1 => by simp [scL, scL_length m]
def scV (n : Int) : Int := if n < 0 ∨ 15 < n then -1 else (scL n.toNat).getD n.toNat 0

theorem c_implSchroeder (n : Int) (w : World) : Calls PP F.impl_SchroederNumber #[vI n] w fun e w' => e = .returned (vI (scV n)) ∧ Below w.heap.size w w' := by
  refine impl_SchroederNumber.calls n ?_
  rw [impl_SchroederNumber.E_s]
  refine bif_dec (fun h => ?_) (fun h1 => bif_dec (fun h => ?_) (fun h2 => ?_))
  · exact ⟨by rw [scV, if_pos (.inl h)], Below.refl _ _⟩
  · exact ⟨by rw [scV, if_pos (.inr h)], Below.refl _ _⟩
  refine lit1 oneInt (B := w.heap.size) (Nat.le_refl _) (One.int 1) ?_
  intro t0 w1 hown hg _
  refine impl_SchroederNumber.L5_rule _ _ _ _ _ (I := fun t m w' => 1 ≤ m ∧ m ≤ n + 1 ∧ OwnI w' w.heap.size t (scL (m.toNat - 1)) ∧ Below w.heap.size w w') (μ := fun _ m _ => (n + 1 - m).toNat)
    ⟨by omega, by omega, hown, below_of_grow hg⟩ ?_
  rintro t m w' ⟨h0, hm, hown, hb⟩
  rw [impl_SchroederNumber.B5_s]
  obtain ⟨m', rfl⟩ : ∃ m' : Nat, m = m' + 1 := ⟨m.toNat - 1, by omega⟩
  rw [show ((m' : Int) + 1).toNat - 1 = m' by omega] at hown
  have em : w64 ((m' : Int) + 1 - 1) = m' := by rw [w64_id (by omega) (by omega)]; omega
  refine bif_dec (fun h3 => ?_) (fun h3 => ?_)
  · rw [em]
    refine RowI.get hown.row (by omega) (by rw [scL_length]; omega) ?_
    refine impl_SchroederNumber.L9_rule _ _ _ _ _ _ _ _ (I := fun x k w2 => 0 ≤ k ∧ k ≤ m' + 1 ∧ x = scIn (scL m') (m' + 1) ((scL m').getD m' 0) k.toNat ∧ Drew w' w2) (μ := fun _ k _ => (m' + 1 - k).toNat)
      ⟨by omega, by omega, rfl, ⟨0, rfl⟩⟩ ?_
    rintro x k w2 ⟨hk0, hk, hx, hd⟩
    have hown2 : OwnI w2 w.heap.size t (scL m') := hown.heap hd.heap'
    rw [impl_SchroederNumber.B9_s]
    refine bif_dec (fun h4 => ?_) (fun h4 => ?_)
    · refine RowI.get hown2.row hk0 (by rw [scL_length]; omega) ?_
      rw [em, w64_id (n := (m' : Int) - k) (by omega) (by omega)]
      refine RowI.get hown2.row (by omega) (by rw [scL_length]; omega) ?_
      refine drew_intro fun w3 hd3 => ?_
      refine ⟨_, k + 1, by rw [w64_succ hk0 (by omega)], ⟨by omega, by omega, ?_, hd.trans hd3⟩, by omega⟩
      rw [show (k + 1).toNat = k.toNat + 1 by omega, scIn, ← hx]
      rw [show ((m' : Int) + 1 - 1 - (k.toNat : Int)) = m' - k by omega]
    · rw [impl_SchroederNumber.A9_2_s]
      have hke : k.toNat = m' + 1 := by omega
      rw [hke] at hx
      have hs2 : w2.heap.size = w'.heap.size := by rw [hd.heap']
      have hb2 : Below w.heap.size w w2 := hb.trans (hd.below _)
      refine append_int hown2 hb2.size (by rw [scL_length]; omega) ?_
      intro t' w3 h7 h8 h9
      refine ⟨t', m' + 1 + 1, by rw [w64_succ (by omega) (by omega)], ⟨by omega, by omega, ?_, hb2.grown h8 hb2.size (fun g hg => (hown2.lt g hg).1)⟩, by omega⟩
      rw [show ((m' : Int) + 1 + 1).toNat - 1 = m' + 1 by omega, scL, ← hx]
      exact h7
  · rw [impl_SchroederNumber.A5_0_s]
    have : m' = n.toNat := by omega
    subst this
    refine RowI.get hown.row (by omega) (by rw [scL_length]; omega) ?_
    exact ⟨by rw [scV, if_neg (by omega)], hb⟩

theorem c_specSchroeder (n : Int) (w : World) : Calls PP F.spec_SchroederNumber #[vI n] w fun e w' => e = .returned (vI (scV n)) ∧ Below w.heap.size w w' := by
  refine spec_SchroederNumber.calls n ?_
  rw [spec_SchroederNumber.E_s]
  refine Pure.pcall1 (s := .bool) (c_l1In n 0 15) ?_
  refine bif_intro (fun h => ?_) (fun h1 => ?_)
  · have : n < 0 ∨ 15 < n := by simp at h; omega
    exact ⟨by rw [scV, if_pos this], Below.refl _ _⟩
  have h1 : 0 ≤ n ∧ n ≤ 15 := by simpa using h1
  refine lit1 oneInt (B := w.heap.size) (Nat.le_refl _) (One.int 1) ?_
  intro t0 w1 hown hg _
  refine spec_SchroederNumber.L5_rule _ _ _ _ _ (I := fun t m w' => 1 ≤ m ∧ m ≤ n + 1 ∧ OwnI w' w.heap.size t (scL (m.toNat - 1)) ∧ Below w.heap.size w w') (μ := fun _ m _ => (n + 1 - m).toNat)
    ⟨by omega, by omega, hown, below_of_grow hg⟩ ?_
  rintro t m w' ⟨h0, hm, hown, hb⟩
  rw [spec_SchroederNumber.B5_s]
  obtain ⟨m', rfl⟩ : ∃ m' : Nat, m = m' + 1 := ⟨m.toNat - 1, by omega⟩
  rw [show ((m' : Int) + 1).toNat - 1 = m' by omega] at hown
  have em : w64 ((m' : Int) + 1 - 1) = m' := by rw [w64_id (by omega) (by omega)]; omega
  refine bif_dec (fun h3 => ?_) (fun h3 => ?_)
  · rw [em]
    refine RowI.get hown.row (by omega) (by rw [scL_length]; omega) ?_
    refine spec_SchroederNumber.L9_rule _ _ _ _ _ _ _ (I := fun x k w2 => 0 ≤ k ∧ k ≤ m' + 1 ∧ x = scIn (scL m') (m' + 1) ((scL m').getD m' 0) k.toNat ∧ Drew w' w2) (μ := fun _ k _ => (m' + 1 - k).toNat)
      ⟨by omega, by omega, rfl, ⟨0, rfl⟩⟩ ?_
    rintro x k w2 ⟨hk0, hk, hx, hd⟩
    have hown2 : OwnI w2 w.heap.size t (scL m') := hown.heap hd.heap'
    rw [spec_SchroederNumber.B9_s]
    refine bif_dec (fun h4 => ?_) (fun h4 => ?_)
    · refine RowI.get hown2.row hk0 (by rw [scL_length]; omega) ?_
      rw [em, w64_id (n := (m' : Int) - k) (by omega) (by omega)]
      refine RowI.get hown2.row (by omega) (by rw [scL_length]; omega) ?_
      refine drew_intro fun w3 hd3 => ?_
      refine ⟨_, k + 1, by rw [w64_succ hk0 (by omega)], ⟨by omega, by omega, ?_, hd.trans hd3⟩, by omega⟩
      rw [show (k + 1).toNat = k.toNat + 1 by omega, scIn, ← hx]
      rw [show ((m' : Int) + 1 - 1 - (k.toNat : Int)) = m' - k by omega]
    · rw [spec_SchroederNumber.A9_2_s]
      have hke : k.toNat = m' + 1 := by omega
      rw [hke] at hx
      have hb2 : Below w.heap.size w w2 := hb.trans (hd.below _)
      refine append_int hown2 hb2.size (by rw [scL_length]; omega) ?_
      intro t' w3 h7 h8 h9
      refine ⟨t', m' + 1 + 1, by rw [w64_succ (by omega) (by omega)], ⟨by omega, by omega, ?_, hb2.grown h8 hb2.size (fun g hg => (hown2.lt g hg).1)⟩, by omega⟩
      rw [show ((m' : Int) + 1 + 1).toNat - 1 = m' + 1 by omega, scL, ← hx]
      exact h7
  · rw [spec_SchroederNumber.A5_0_s]
    have : m' = n.toNat := by omega
    subst this
    refine RowI.get hown.row (by omega) (by rw [scL_length]; omega) ?_
    exact ⟨by rw [scV, if_neg (by omega)], hb⟩


theorem c_l1Max (a b : Int) : Pure F.spec_l1Max #[vI a, vI b] (vI (max a b)) := by
  intro w
  refine spec_l1Max.calls a b ?_
  rw [spec_l1Max.E_s]
  refine bif_dec (fun h => ?_) (fun h => ?_)
  · exact ⟨by congr 2; omega, rfl⟩
  · exact ⟨by congr 2; omega, rfl⟩
/-- The words. -/
def strV : Nat → ByteArray
  | 0 => ⟨#[111, 110, 101]⟩
  | 1 => ⟨#[112, 111, 119, 101, 114, 115]⟩
  | 2 => ⟨#[102, 105, 98, 111, 110, 97, 99, 99, 105]⟩
  | 3 => ⟨#[99, 97, 116, 97, 108, 97, 110]⟩
  | 4 => ⟨#[115, 99, 104, 114, 111, 101, 100, 101, 114]⟩
  | _ => ⟨#[111, 116, 104, 101, 114]⟩
def fnV : Nat → Value
  | 0 => .func (.func F.impl_KnownCountsL1) #[] #[]
  | 1 => .func (.func F.impl_KnownCountsL2) #[] #[]
  | 2 => .func (.func F.impl_FibonacciNumber) #[] #[]
  | 3 => .func (.func F.impl_CatalanNumber) #[] #[]
  | _ => .func (.func F.impl_KnownCountsL3) #[] #[]
/-- The known numbers. -/
def kinV : Nat → Int → Int
  | 0, _ => 1
  | 1, m => sShl .i64 1 (max 0 (m - 1))
  | 2, m => fibV m
  | 3, m => caV m
  | _, m => scV (max 0 (m - 1))
theorem five {i : Nat} (hi : i < 5) : i = 0 ∨ i = 1 ∨ i = 2 ∨ i = 3 ∨ i = 4 := by omega
theorem seqB : ((List.range 5).all fun i => (List.range 5).all fun j => ((strV i).toList == (strV j).toList) == decide (i = j)) = true := by kernel_rfl
theorem seq5 (i j : Nat) (hi : i < 5) (hj : j < 5) : ((strV i).toList == (strV j).toList) = decide (i = j) := by
  have h := List.all_eq_true.1 (List.all_eq_true.1 seqB i (List.mem_range.2 hi)) j (List.mem_range.2 hj)
  exact eq_of_beq h
theorem wrap7 : ∀ m : Fin 7, IntKind.u64.wrap (max 0 ((m.val : Int) - 1)) = max 0 ((m.val : Int) - 1) := by decide
theorem c_l16Known {i m : Nat} (hi : i < 5) (hm : m ≤ 6) {w : World} {K : Int → World → Prop} (hk : ∀ w', Below w.heap.size w w' → K (kinV i m) w') : call1 (.int .i64) PP F.spec_l16Known #[.string (strV i), vI m] w K := by
  have fin : ∀ w', Below w.heap.size w w' → ∀ v, v = kinV i m → Ret1 (.int .i64) K (.returned (vI v)) w' := fun w' hb v hv => ⟨v, rfl, by rw [hv]; exact hk w' hb⟩
  refine spec_l16Known.calls (strV i) m ?_
  rw [spec_l16Known.E_s]
  have e0 : w64 ((m : Int) - 1) = (m : Int) - 1 := w64_id (by omega) (by omega)
  rw [e0]
  show bif (strV i).toList == (strV 1).toList then _ else bif (strV i).toList == (strV 2).toList then _ else bif (strV i).toList == (strV 3).toList then _ else bif (strV i).toList == (strV 4).toList then _ else _
  rw [seq5 i 1 hi (by decide), seq5 i 2 hi (by decide), seq5 i 3 hi (by decide), seq5 i 4 hi (by decide)]
  refine bif_dec (fun h => ?_) (fun h1 => bif_dec (fun h => ?_) (fun h2 => bif_dec (fun h => ?_) (fun h3 => bif_dec (fun h => ?_) (fun h4 => ?_))))
  · subst h
    refine Pure.pcall1 (s := .int .i64) (c_l1Max 0 _) ?_
    have hw := wrap7 ⟨m, by omega⟩
    simp only at hw
    rw [hw]
    exact ⟨by omega, fin w (Below.refl _ _) _ rfl⟩
  · subst h
    exact Pure.call1 (s := .int .i64) (c_specFib m) (fin w (Below.refl _ _) _ rfl)
  · subst h
    exact Pure.call1 (s := .int .i64) (c_specCatalan m) (fin w (Below.refl _ _) _ rfl)
  · subst h
    refine Pure.pcall1 (s := .int .i64) (c_l1Max 0 _) ?_
    refine (c_specSchroeder _ w).mono ?_
    rintro e w' ⟨rfl, hb⟩
    exact ⟨_, rfl, fin w' hb _ rfl⟩
  · obtain rfl : i = 0 := by omega
    exact fin w (Below.refl _ _) _ rfl
theorem c_fnV {i m : Nat} (hi : i < 5) (hm : m ≤ 6) {w : World} {K : Int → World → Prop} (hk : ∀ w', Below w.heap.size w w' → K (kinV i m) w') : callV1 (.int .i64) PP (fnV i) [vI m] w K := by
  have fin : ∀ w', Below w.heap.size w w' → ∀ v, v = kinV i m → Ret1 (.int .i64) K (.returned (vI v)) w' := fun w' hb v hv => ⟨v, rfl, by rw [hv]; exact hk w' hb⟩
  have e0 : w64 ((m : Int) - 1) = (m : Int) - 1 := w64_id (by omega) (by omega)
  have e1 : (if 0 > (m : Int) - 1 then 0 else (m : Int) - 1) = max 0 ((m : Int) - 1) := by split <;> omega
  obtain rfl | rfl | rfl | rfl | rfl := five hi
  · refine ⟨_, _, _, rfl, by kernel_rfl, ?_⟩
    show Calls PP F.impl_KnownCountsL1 #[vI m] w _
    refine impl_KnownCountsL1.calls m ?_
    rw [impl_KnownCountsL1.E_s]
    exact fin w (Below.refl _ _) _ rfl
  · refine ⟨_, _, _, rfl, by kernel_rfl, ?_⟩
    show Calls PP F.impl_KnownCountsL2 #[vI m] w _
    refine impl_KnownCountsL2.calls m ?_
    rw [impl_KnownCountsL2.E_s, e0, e1]
    exact ⟨by omega, fin w (Below.refl _ _) _ rfl⟩
  · refine ⟨_, _, _, rfl, by kernel_rfl, ?_⟩
    show call1 (.int .i64) PP F.impl_FibonacciNumber #[vI m] w K
    exact Pure.call1 (s := .int .i64) (c_implFib m) (hk w (Below.refl _ _))
  · refine ⟨_, _, _, rfl, by kernel_rfl, ?_⟩
    show call1 (.int .i64) PP F.impl_CatalanNumber #[vI m] w K
    exact Pure.call1 (s := .int .i64) (c_implCatalan m) (hk w (Below.refl _ _))
  · refine ⟨_, _, _, rfl, by kernel_rfl, ?_⟩
    show Calls PP F.impl_KnownCountsL3 #[vI m] w _
    refine impl_KnownCountsL3.calls m ?_
    rw [impl_KnownCountsL3.E_s, e0, e1]
    refine (c_implSchroeder _ w).mono ?_
    rintro e w' ⟨rfl, hb⟩
    exact ⟨_, rfl, fin w' hb _ rfl⟩
/-! ### The words in memory -/
def wordsV : List Value := (List.range 5).map fun i => .string (strV i)
theorem infoStr : (PP.info? T_string).map (fun i => (i.zero, i.size)) = some (some (.string ⟨#[]⟩), 1) := by kernel_rfl
theorem lit_words {w : World} {K : Sl → World → Prop} (h : ∀ s w', Own w' w.heap.size T_string s wordsV → w.grownBy w' none → K s w') :
    sem1 .sl PP (Instr.buildSlice T_Sstring 5 #[(0, .string (strV 0)), (1, .string (strV 1)), (2, .string (strV 2)), (3, .string (strV 3)), (4, .string (strV 4))]) w K := by
  have hi := infoStr
  cases hq : PP.info? T_string with
  | none => rw [hq] at hi; cases hi
  | some ie =>
    rw [hq] at hi
    simp only [Option.map_some, Option.some.injEq, Prod.mk.injEq] at hi
    refine ⟨⟨some ⟨w.heap.size, 0, none⟩, 5, 5⟩, w.alloc (.cells wordsV.toArray T_string), ?_, h _ _ ⟨rfl, Nat.le_refl _, by simp only [maxLen]; omega, .inr ⟨_, _, rfl, Nat.le_refl _, heap_alloc_new w _, rfl, rfl⟩⟩ (World.grownBy_alloc w _ none)⟩
    refine run_buildSlice w T_Sstring T_string 5 _ wordsV.toArray ie _ (by kernel_rfl) hq hi.1 (by rw [hi.2]; decide) (by rw [hi.2]; decide) ?_
    rw [hi.2]
    kernel_rfl
/-! ### The table in memory -/
def T_kn : TypeId := T_struct___name_string__count_func_int__int__
def tabV : Array Value := #[.string (strV 0), fnV 0, .string (strV 1), fnV 1, .string (strV 2), fnV 2, .string (strV 3), fnV 3, .string (strV 4), fnV 4]
theorem tab_at {i : Nat} (hi : i < 5) : tabV[2 * i]? = some (.string (strV i)) ∧ tabV[2 * i + 1]? = some (fnV i) := by
  obtain rfl | rfl | rfl | rfl | rfl := five hi <;> exact ⟨rfl, rfl⟩
def pairV (i : Nat) : Array Value := #[.string (strV i), fnV i]
theorem pair_one {i : Nat} (hi : i < 5) : (pairV i).all (·.oneCell') = true := by
  obtain rfl | rfl | rfl | rfl | rfl := five hi <;> kernel_rfl
theorem undKn : ∃ d, PP.underlying T_kn = some d ∧ d.isRow = true := by
  have h : (PP.underlying T_kn).map (fun d => d.isRow) = some true := by kernel_rfl
  cases hq : PP.underlying T_kn with
  | none => rw [hq] at h; cases h
  | some d => rw [hq] at h; exact ⟨d, rfl, by simpa using h⟩
theorem infoKn : (PP.info? T_kn).map (fun i => (i.zero, i.size)) = some (some (.agg #[.string ⟨#[]⟩, .nilFunc]), 2) := by kernel_rfl
theorem sizeKn : (PP.info? T_kn).map (·.size) = some 2 := by kernel_rfl
theorem build_kn (i : Nat) (hi : i < 5) : PP.built T_kn [(0, .string (strV i)), (1, fnV i)] = some (pairV i) := by
  obtain rfl | rfl | rfl | rfl | rfl := five hi <;> kernel_rfl
theorem c_build {i : Nat} (hi : i < 5) {K : Value → Prop} (hk : K (.agg (pairV i))) : buildK PP T_kn [(0, .string (strV i)), (1, fnV i)] K :=
  ⟨_, fun w => run_build w T_kn _ _ (build_kn i hi), hk⟩
theorem lit_tab {w : World} {K : Sl → World → Prop} (h : ∀ w', w'.heap[w.heap.size]? = some (.cells tabV T_kn (0, 0)) → w.grownBy w' none → K ⟨some ⟨w.heap.size, 0, none⟩, 5, 5⟩ w') :
    sem1 .sl PP (Instr.buildSlice T_Sstruct___name_string__count_func_int__int__ 5 #[(0, .agg (pairV 0)), (1, .agg (pairV 1)), (2, .agg (pairV 2)), (3, .agg (pairV 3)), (4, .agg (pairV 4))]) w K := by
  have hi := infoKn
  cases hq : PP.info? T_kn with
  | none => rw [hq] at hi; cases hi
  | some ie =>
    rw [hq] at hi
    simp only [Option.map_some, Option.some.injEq, Prod.mk.injEq] at hi
    refine ⟨⟨some ⟨w.heap.size, 0, none⟩, 5, 5⟩, w.alloc (.cells tabV T_kn), ?_, h _ (heap_alloc_new w _) (World.grownBy_alloc w _ none)⟩
    refine run_buildSlice w _ T_kn 5 _ tabV ie _ (by kernel_rfl) hq hi.1 (by rw [hi.2]; decide) (by rw [hi.2]; decide) ?_
    rw [hi.2]
    kernel_rfl

/-! ### What both answer -/
def sameT (LL : List (List Int)) (i : Nat) : Nat → Bool
  | 0 => true
  | k + 1 => sameT LL i k && (cls LL k == kinV i (k : Nat))
def knownV (LL : List (List Int)) (n : Nat) : ByteArray := match (List.range 5).find? fun i => sameT LL i (n + 1) with
  | some i => strV i
  | none => ⟨#[111, 116, 104, 101, 114]⟩
theorem knownV_hit {LL : List (List Int)} {n i : Nat} (hi : i < 5) (h : sameT LL i (n + 1) = true) (hno : ∀ j, j < i → sameT LL j (n + 1) = false) : knownV LL n = strV i := by
  have : (List.range 5).find? (fun i => sameT LL i (n + 1)) = some i := List.find?_range_eq_some.2 ⟨h, List.mem_range.2 hi, fun j hj => by rw [hno j hj]; rfl⟩
  rw [knownV, this]
theorem knownV_none {LL : List (List Int)} {n : Nat} (hno : ∀ j, j < 5 → sameT LL j (n + 1) = false) : knownV LL n = ⟨#[111, 116, 104, 101, 114]⟩ := by
  have : (List.range 5).find? (fun i => sameT LL i (n + 1)) = none := List.find?_range_eq_none.2 fun j hj => by rw [hno j hj]; rfl
  rw [knownV, this]
def KnOk (LL : List (List Int)) (n : Int) : Prop := BasisOk LL ∧ 4 ≤ n ∧ n ≤ 6
open Classical in
noncomputable def KnownCountsV (LL : List (List Int)) (n : Int) : ByteArray := if KnOk LL n then knownV LL n.toNat else ⟨#[]⟩
theorem load_str {w : World} {a : Addr} {x : ByteArray} (h : w.cell? a = some (.string x)) {K : ByteArray → Prop} (hk : K x) : load1 .str a w K := ⟨x, h, hk⟩
theorem clsS_getD {LL : List (List Int)} {n k : Nat} (h : k < n) : (clsS LL n).getD k 0 = cls LL k := by simp [clsS, List.getD_eq_getElem?_getD, h]
theorem words_get {w : World} {s : Sl} (h : Row w s wordsV) {i : Nat} (hi : i < 5) {K : Addr → Prop} (hk : ∀ a, w.cell? a = some (.string (strV i)) → K a) : idxK 1 s i K := by
  have hv : wordsV[i]? = some (.string (strV i)) := by rw [wordsV, List.getElem?_map, List.getElem?_range hi]; rfl
  obtain ⟨a, ha, hc⟩ := h.cell _ _ hv
  have hn : s.n = 5 := h.n
  refine ⟨a, ha, by omega, by omega, ?_⟩
  rw [Int.toNat_natCast, Nat.mul_one]
  exact hk _ hc
theorem c_specKnownCounts {w : World} {l : Sl} {LL : List (List Int)} (hl : RowSS w l LL) (hL : LL.length < 2^38) (ht : tot LL < 2^37) (n : Int) :
    Calls PP F.spec_KnownCounts #[l.v, vI n] w fun e w' => e = .returned (.string (KnownCountsV LL n)) ∧ Below w.heap.size w w' := by
  refine spec_KnownCounts.calls l n ?_
  rw [spec_KnownCounts.E_s]
  refine (c_specIsBasis hl hL ht).mono ?_
  rintro e w1 ⟨rfl, hb1⟩
  refine ⟨_, rfl, ?_⟩
  refine bif_intro (fun h => ?_) (fun h => ?_)
  · have h : ¬ BasisOk LL := by simpa [IsBasisV] using h
    exact ⟨by rw [KnownCountsV, if_neg (fun hh => h hh.1)], hb1⟩
  have hB : BasisOk LL := by simpa [IsBasisV] using h
  refine Pure.pcall1 (s := .bool) (c_l1In n 4 6) ?_
  refine bif_intro (fun h => ?_) (fun h => ?_)
  · have h : ¬ (4 ≤ n ∧ n ≤ 6) := by simp at h; omega
    exact ⟨by rw [KnownCountsV, if_neg (fun hh => h hh.2)], hb1⟩
  have hn : 4 ≤ n ∧ n ≤ 6 := by simpa using h
  have hV : KnownCountsV LL n = knownV LL n.toNat := by rw [KnownCountsV, if_pos ⟨hB, hn⟩]
  have hC : ClassCountsV LL n = clsS LL (n.toNat + 1) := by rw [ClassCountsV, if_pos ⟨hB, by omega, hn.2⟩]
  rw [hV]
  obtain ⟨n, rfl⟩ : ∃ m : Nat, n = m := ⟨n.toNat, by omega⟩
  rw [Int.toNat_natCast] at hC ⊢
  refine (c_specClassCounts (hl.grow hb1) hL ht n).mono ?_
  rintro e w2 ⟨c, rfl, hc, hb12⟩
  refine ⟨c, rfl, ?_⟩
  rw [hC] at hc
  have hb2 := hb1.trans (hb12.mono hb1.size)
  refine lit_words ?_
  intro s w3 hs hg3
  have hb23 := below_of_grow hg3
  have hb3 := hb2.trans (hb23.mono hb2.size)
  have hc3 : RowI w3 c (clsS LL (n + 1)) := (Own.grow hc hb23).row
  have hs3 := hs.row
  have hsn : s.n = 5 := hs.n
  refine spec_KnownCounts.L6_rule _ _ _ _ _ _ (I := fun i w' => 0 ≤ i ∧ i ≤ 5 ∧ Below w3.heap.size w3 w' ∧ ∀ j, j < i.toNat → sameT LL j (n + 1) = false) (μ := fun i _ => (5 - i).toNat)
    ⟨by omega, by omega, Below.refl _ _, fun j hj => by simp at hj⟩ ?_
  rintro i w4 ⟨hi0, hi, hb4, hno⟩
  rw [spec_KnownCounts.B6_s, hsn]
  refine bif_dec (fun h3 => ?_) (fun h3 => ?_)
  · obtain ⟨i, rfl⟩ : ∃ m : Nat, i = m := ⟨i.toNat, by omega⟩
    rw [Int.toNat_natCast] at hno
    have hi5 : i < 5 := by omega
    refine spec_KnownCounts.L10_rule _ _ _ _ _ _ _ _ (I := fun fi m w' => 0 ≤ m ∧ m ≤ (n + 1 : Nat) ∧ Below w3.heap.size w3 w' ∧ fi = sameT LL i m.toNat) (μ := fun _ m _ => ((n + 1 : Nat) - m).toNat)
      ⟨by omega, by omega, hb4, rfl⟩ ?_
    rintro fi m w5 ⟨hm0, hm, hb5, hfi⟩
    rw [spec_KnownCounts.B10_s]
    refine bif_dec (fun h5 => ?_) (fun h5 => ?_)
    · obtain ⟨m, rfl⟩ : ∃ k : Nat, m = k := ⟨m.toNat, by omega⟩
      rw [Int.toNat_natCast] at hfi
      refine drew_intro fun w6 hd => ?_
      have hb6 := hb5.trans ((hd.below _).mono hb5.size)
      have em : ((m : Int) + 1).toNat = m + 1 := by omega
      refine bif_intro (fun h6 => ?_) (fun h6 => ?_)
      · have fin : ∀ w7, Below w6.heap.size w6 w7 → ∃ fine_8_n m_9_n, spec_KnownCounts.emb10 n c s i (cls LL m == kinV i m) (w64 ((m : Int) + 1)) = spec_KnownCounts.emb10 n c s i fine_8_n m_9_n ∧ (0 ≤ m_9_n ∧ m_9_n ≤ (n + 1 : Nat) ∧ Below w3.heap.size w3 w7 ∧ fine_8_n = sameT LL i m_9_n.toNat) ∧ (((n + 1 : Nat) : Int) - m_9_n).toNat < (((n + 1 : Nat) : Int) - m).toNat := fun w7 hb7 =>
          ⟨_, (m : Int) + 1, by rw [w64_succ hm0 (by omega)], ⟨by omega, by omega, hb6.trans (hb7.mono hb6.size), by rw [em, sameT, ← hfi, h6, Bool.true_and]⟩, by omega⟩
        refine RowI.place (hc3.grow hb6) hm0 (by rw [clsS_len]; omega) fun a14 h14 => ?_
        rw [Int.toNat_natCast, clsS_getD (by omega)] at h14
        refine words_get (hs3.grow hb6) hi5 fun a15 h15 => ?_
        exact ⟨load_int h14 (load_str h15 (c_l16Known hi5 (by omega) fin)), load_str h15 ⟨load_int h14 (c_l16Known hi5 (by omega) fin), c_l16Known hi5 (by omega) fun w7 hb7 => load_int (cell_grow h14 hb7) (fin w7 hb7)⟩⟩
      · have fin : ∃ fine_8_n m_9_n, spec_KnownCounts.emb10 n c s i false (w64 ((m : Int) + 1)) = spec_KnownCounts.emb10 n c s i fine_8_n m_9_n ∧ (0 ≤ m_9_n ∧ m_9_n ≤ (n + 1 : Nat) ∧ Below w3.heap.size w3 w6 ∧ fine_8_n = sameT LL i m_9_n.toNat) ∧ (((n + 1 : Nat) : Int) - m_9_n).toNat < (((n + 1 : Nat) : Int) - m).toNat :=
          ⟨_, (m : Int) + 1, by rw [w64_succ hm0 (by omega)], ⟨by omega, by omega, hb6, by rw [em, sameT, ← hfi, h6, Bool.false_and]⟩, by omega⟩
        exact ⟨fin, fin, fin⟩
    · rw [spec_KnownCounts.A10_2_s]
      rw [show m.toNat = n + 1 by omega] at hfi
      refine bif_intro (fun h6 => ?_) (fun h6 => ?_)
      · refine words_get (hs3.grow hb5) hi5 fun a h27 => ?_
        refine load_str h27 ?_
        rw [spec_KnownCounts.R6_s]
        exact ⟨by rw [knownV_hit hi5 (by rw [← hfi, h6]) hno], hb3.trans (hb5.mono hb3.size)⟩
      · refine ⟨(i : Int) + 1, by rw [w64_succ hi0 (by omega)], ⟨by omega, by omega, hb5, fun j hj => ?_⟩, by omega⟩
        by_cases e : j = i
        · subst e; rw [← hfi, h6]
        · exact hno j (by omega)
  · rw [spec_KnownCounts.A6_0_s]
    exact ⟨by rw [knownV_none fun j hj => hno j (by omega)], hb3.trans (hb4.mono hb3.size)⟩
theorem c_implKnownCounts {w : World} {l : Sl} {LL : List (List Int)} (hl : RowSS w l LL) (hL : LL.length < 2^38) (ht : tot LL < 2^37) (n : Int) :
    Calls PP F.impl_KnownCounts #[l.v, vI n] w fun e w' => e = .returned (.string (KnownCountsV LL n)) ∧ Below w.heap.size w w' := by
  refine impl_KnownCounts.calls l n ?_
  rw [impl_KnownCounts.E_s]
  refine (c_implIsBasis hl hL ht).mono ?_
  rintro e w1 ⟨rfl, hb1⟩
  refine ⟨_, rfl, ?_⟩
  refine bif_intro (fun h => ?_) (fun h => ?_)
  · have h : ¬ BasisOk LL := by simpa [IsBasisV] using h
    exact ⟨by rw [KnownCountsV, if_neg (fun hh => h hh.1)], hb1⟩
  have hB : BasisOk LL := by simpa [IsBasisV] using h
  refine bif_dec (fun h4 => ?_) (fun h4 => ?_)
  · exact ⟨by rw [KnownCountsV, if_neg (fun hh => by have := hh.2; omega)], hb1⟩
  refine bif_dec (fun h5 => ?_) (fun h5 => ?_)
  · exact ⟨by rw [KnownCountsV, if_neg (fun hh => by have := hh.2; omega)], hb1⟩
  have hn : 4 ≤ n ∧ n ≤ 6 := by omega
  have hV : KnownCountsV LL n = knownV LL n.toNat := by rw [KnownCountsV, if_pos ⟨hB, hn⟩]
  have hC : ClassCountsV LL n = clsS LL (n.toNat + 1) := by rw [ClassCountsV, if_pos ⟨hB, by omega, hn.2⟩]
  rw [hV]
  obtain ⟨n, rfl⟩ : ∃ m : Nat, n = m := ⟨n.toNat, by omega⟩
  rw [Int.toNat_natCast] at hC ⊢
  refine (c_implClassCounts (hl.grow hb1) hL ht n).mono ?_
  rintro e w2 ⟨c, rfl, hc, hb12, _⟩
  refine ⟨c, rfl, ?_⟩
  rw [hC] at hc
  have hb2 := hb1.trans (hb12.mono hb1.size)
  refine c_build (i := 0) (by decide) ?_
  refine c_build (i := 1) (by decide) ?_
  refine c_build (i := 2) (by decide) ?_
  refine c_build (i := 3) (by decide) ?_
  refine c_build (i := 4) (by decide) ?_
  refine lit_tab ?_
  intro w3 htab hg3
  have hb23 := below_of_grow hg3
  have hb3 := hb2.trans (hb23.mono hb2.size)
  have hc3 : RowI w3 c (clsS LL (n + 1)) := (Own.grow hc hb23).row
  have hcn : c.n = n + 1 := by have := hc3.n; simpa [clsS_len] using this
  have hlt3 : w2.heap.size < w3.heap.size := by
    rw [Array.getElem?_eq_some_iff] at htab
    exact htab.1
  show impl_KnownCounts.L6 std c ⟨some ⟨w2.heap.size, 0, none⟩, 5, 5⟩ ((5 : Nat) : Int) 0 w3 _
  refine impl_KnownCounts.L6_rule _ _ _ _ _ _ (I := fun i w' => 0 ≤ i ∧ i ≤ 5 ∧ Below w3.heap.size w3 w' ∧ ∀ j, j < i.toNat → sameT LL j (n + 1) = false) (μ := fun i _ => (5 - i).toNat)
    ⟨by omega, by omega, Below.refl _ _, fun j hj => by simp at hj⟩ ?_
  rintro i w4 ⟨hi0, hi, hb4, hno⟩
  rw [impl_KnownCounts.B6_s]
  refine bif_dec (fun h3 => ?_) (fun h3 => ?_)
  · obtain ⟨i, rfl⟩ : ∃ m : Nat, i = m := ⟨i.toNat, by omega⟩
    rw [Int.toNat_natCast] at hno
    have hi5 : i < 5 := by omega
    have htab4 : w4.heap[w2.heap.size]? = some (.cells tabV T_kn (0, 0)) := by rw [hb4.block _ hlt3]; exact htab
    refine ⟨⟨w2.heap.size, 0, none⟩, rfl, by omega, by simp only; omega, ?_⟩
    rw [Int.toNat_natCast, add_lit, Nat.zero_add]
    have hrange : ∀ w' : World, w'.heap = w4.heap → w'.rangeAt w2.heap.size (i * 2) [.string (strV i), fnV i] := by
      intro w' hw j v hv
      have hg : w'.heap[w2.heap.size]? = some (.cells tabV T_kn (0, 0)) := by rw [hw]; exact htab4
      have := tab_at hi5
      rw [cell_of_row w' w2.heap.size (i * 2 + j) tabV T_kn (0, 0) hg]
      match j, hv with
      | 0, hv => simp at hv; subst hv; rw [Nat.add_zero, Nat.mul_comm]; exact this.1
      | 1, hv => simp at hv; subst hv; rw [Nat.mul_comm]; exact this.2
    obtain ⟨d, hd1, hd2⟩ := undKn
    refine ⟨.agg (pairV i), fun w' hw => run_loadVar_mid w' _ _ T_kn [.string (strV i), fnV i] d (hrange w' hw) hd1 hd2 sizeKn, ?_⟩
    refine ⟨w4.alloc (.cells (pairV i) T_kn), run_storeVar_new w4 T_kn _ (pairV i) sizeKn rfl (pair_one hi5), ?_⟩
    have hnew := heap_alloc_new w4 (.cells (pairV i) T_kn)
    have hb45 := below_of_grow (World.grownBy_alloc w4 (.cells (pairV i) T_kn) none)
    generalize hw5 : w4.alloc (.cells (pairV i) T_kn) = w5 at hnew hb45
    generalize hgg : w4.heap.size = g at hnew
    have hb5 := hb4.trans (hb45.mono hb4.size)
    have hc0 : w5.cell? ((⟨g, 0, none⟩ : Addr).add 0) = some (.string (strV i)) := by
      rw [add_lit, cell_of_row w5 g 0 _ _ _ hnew]; rfl
    have hc1 : w5.cell? ((⟨g, 0, none⟩ : Addr).add 1) = some (fnV i) := by
      rw [add_lit, cell_of_row w5 g 1 _ _ _ hnew]; rfl
    show impl_KnownCounts.L10 std c ⟨g, 0, none⟩ true ⟨some ⟨w2.heap.size, 0, none⟩, 5, 5⟩ ((5 : Nat) : Int) i c (c.n : Int) 0 w5 _
    rw [hcn]
    refine impl_KnownCounts.L10_rule _ _ _ _ _ _ _ _ _ _ _ (I := fun fi m w' => 0 ≤ m ∧ m ≤ (n + 1 : Nat) ∧ Below w5.heap.size w5 w' ∧ fi = sameT LL i m.toNat) (μ := fun _ m _ => ((n + 1 : Nat) - m).toNat)
      ⟨by omega, by omega, Below.refl _ _, rfl⟩ ?_
    rintro fi m w6 ⟨hm0, hm, hb6, hfi⟩
    have hb36 := hb5.trans (hb6.mono hb5.size)
    rw [impl_KnownCounts.B10_s]
    refine bif_dec (fun h5 => ?_) (fun h5 => ?_)
    · obtain ⟨m, rfl⟩ : ∃ k : Nat, m = k := ⟨m.toNat, by omega⟩
      rw [Int.toNat_natCast] at hfi
      have em : ((m : Int) + 1).toNat = m + 1 := by omega
      refine RowI.get (hc3.grow hb36) hm0 (by rw [clsS_len]; omega) ?_
      rw [Int.toNat_natCast, clsS_getD (by omega)]
      refine bif_intro (fun h6 => ?_) (fun h6 => ?_)
      · refine ⟨fnV i, cell_grow hc1 hb6, ?_⟩
        refine c_fnV hi5 (by omega) fun w7 hb7 => ?_
        exact ⟨_, (m : Int) + 1, by rw [w64_succ hm0 (by omega)], ⟨by omega, by omega, hb6.trans (hb7.mono hb6.size), by rw [em, sameT, ← hfi, h6, Bool.true_and]⟩, by omega⟩
      · exact ⟨_, (m : Int) + 1, by rw [w64_succ hm0 (by omega)], ⟨by omega, by omega, hb6, by rw [em, sameT, ← hfi, h6, Bool.false_and]⟩, by omega⟩
    · rw [impl_KnownCounts.A10_2_s]
      rw [show m.toNat = n + 1 by omega] at hfi
      refine bif_intro (fun h6 => ?_) (fun h6 => ?_)
      · refine load_str (cell_grow hc0 hb6) ?_
        rw [impl_KnownCounts.R6_s]
        exact ⟨by rw [knownV_hit hi5 (by rw [← hfi, h6]) hno], hb3.trans (hb36.mono hb3.size)⟩
      · refine ⟨(i : Int) + 1, by rw [w64_succ hi0 (by omega)], ⟨by omega, by omega, hb36, fun j hj => ?_⟩, by omega⟩
        by_cases e : j = i
        · subst e; rw [← hfi, h6]
        · exact hno j (by omega)
  · rw [impl_KnownCounts.A6_0_s]
    exact ⟨by rw [knownV_none fun j hj => hno j (by omega)], hb3.trans (hb4.mono hb3.size)⟩
theorem lawC_FnExactKnownCounts (a0 : Sl) (L0 : List (List Int)) (k1 : Int) (hk1 : -9223372036854775808 ≤ k1 ∧ k1 ≤ 9223372036854775807) (w : World) (ha0 : RowSS w a0 L0) (hbd0 : L0.length ≤ maxLen ∧ ∀ M ∈ L0, M.length ≤ maxLen ∧ ∀ x ∈ M, -9223372036854775808 ≤ x ∧ x ≤ 9223372036854775807) :
    Calls PP F.laws_FnExactKnownCounts #[a0.v, vI k1] w fun e w' => e = .returned (.bool true) ∧ Below w.heap.size w w' := by
  have han0 := ha0.n
  refine laws_FnExactKnownCounts.calls a0 k1 ?_
  rw [laws_FnExactKnownCounts.E_s]
  have b_0_0 : Below w.heap.size w w := Below.refl _ _
  refine Quiet.call1 (s := .int .i64) (c_szIntSS (ha0.grow b_0_0) hbd0.1 (fun M hM => (hbd0.2 M hM).1) (left := 1048576) (by omega) (by omega)) ?_
  intro w1 hd1
  have s_0 : Below w.heap.size w w1 := hd1.below _
  have b_0_1 := b_0_0.trans (s_0.mono b_0_0.size)
  refine bif_dec (fun h => ⟨rfl, b_0_1⟩) (fun hsz0 => ?_)
  obtain ⟨hz0, ez0⟩ := szW_ok (LL := L0) (by omega) hsz0
  have hn0 : L0.length < 2^38 := by omega
  have htt0 : tot L0 < 2^38 := by omega
  have b_1_1 : Below w1.heap.size w1 w1 := Below.refl _ _
  refine (c_toIntSS (ha0.grow b_0_1) hn0 htt0).mono ?_
  rintro e w2 ⟨xw0, rfl, ⟨rsxw0, hxw0⟩, s_1⟩
  refine ⟨xw0, rfl, ?_⟩
  have b_0_2 := b_0_1.trans (s_1.mono b_0_1.size)
  have b_1_2 := b_1_1.trans (s_1.mono b_1_1.size)
  have b_2_2 : Below w2.heap.size w2 w2 := Below.refl _ _
  refine (c_specKnownCounts (hxw0.row.grow b_2_2) (by omega) (by omega) k1).mono ?_
  rintro e w3 ⟨rfl, s_2⟩
  refine ⟨_, rfl, ?_⟩
  have b_0_3 := b_0_2.trans (s_2.mono b_0_2.size)
  have b_1_3 := b_1_2.trans (s_2.mono b_1_2.size)
  have b_2_3 := b_2_2.trans (s_2.mono b_2_2.size)
  have b_3_3 : Below w3.heap.size w3 w3 := Below.refl _ _
  refine (c_toIntSS (ha0.grow b_0_3) hn0 htt0).mono ?_
  rintro e w4 ⟨xx0, rfl, ⟨rsxx0, hxx0⟩, s_3⟩
  refine ⟨xx0, rfl, ?_⟩
  have b_0_4 := b_0_3.trans (s_3.mono b_0_3.size)
  have b_1_4 := b_1_3.trans (s_3.mono b_1_3.size)
  have b_2_4 := b_2_3.trans (s_3.mono b_2_3.size)
  have b_3_4 := b_3_3.trans (s_3.mono b_3_3.size)
  have b_4_4 : Below w4.heap.size w4 w4 := Below.refl _ _
  refine (c_implKnownCounts (hxx0.row.grow b_4_4) (by omega) (by omega) k1).mono ?_
  rintro e w5 ⟨rfl, s_4⟩
  refine ⟨_, rfl, ?_⟩
  have b_0_5 := b_0_4.trans (s_4.mono b_0_4.size)
  have b_1_5 := b_1_4.trans (s_4.mono b_1_4.size)
  have b_2_5 := b_2_4.trans (s_4.mono b_2_4.size)
  have b_3_5 := b_3_4.trans (s_4.mono b_3_4.size)
  have b_4_5 := b_4_4.trans (s_4.mono b_4_4.size)
  have b_5_5 : Below w5.heap.size w5 w5 := Below.refl _ _
  refine bif_f (by simp) ?_
  refine (c_toIntSS (ha0.grow b_0_5) hn0 htt0).mono ?_
  rintro e w6 ⟨y0, rfl, hy0, s_5⟩
  refine ⟨y0, rfl, ?_⟩
  have b_0_6 := b_0_5.trans (s_5.mono b_0_5.size)
  have b_1_6 := b_1_5.trans (s_5.mono b_1_5.size)
  have b_2_6 := b_2_5.trans (s_5.mono b_2_5.size)
  have b_3_6 := b_3_5.trans (s_5.mono b_3_5.size)
  have b_4_6 := b_4_5.trans (s_5.mono b_4_5.size)
  have b_5_6 := b_5_5.trans (s_5.mono b_5_5.size)
  refine Quiet.call1 (s := .bool) (c_eqIntSS (hxx0.row.grow b_4_6) hy0.row (by omega) (by omega)) ?_
  intro w7 hd7
  have s_6 : Below w6.heap.size w6 w7 := hd7.below _
  have b_0_7 := b_0_6.trans (s_6.mono b_0_6.size)
  have b_1_7 := b_1_6.trans (s_6.mono b_1_6.size)
  have b_2_7 := b_2_6.trans (s_6.mono b_2_6.size)
  have b_3_7 := b_3_6.trans (s_6.mono b_3_6.size)
  have b_4_7 := b_4_6.trans (s_6.mono b_4_6.size)
  have b_5_7 := b_5_6.trans (s_6.mono b_5_6.size)
  refine bif_f (by simp) ?_
  exact ⟨rfl, b_0_7⟩
end Go.Proofs.Ythbjkgpbnfibkaa
