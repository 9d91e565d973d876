/- The walks of the paths' functions: heights, IsPath, CountReturns, PathHeight, and their laws. -/
import Derived.Test.YtfainpmcdfckkaaCodePa
import Derived.Test.YtfainpmcdfckkaaL1
import Derived.Test.YtfainpmcdfckkaaMem
namespace Go.Proofs.Ytfainpmcdfckkaa
open Go Go.RowKit
set_option maxRecDepth 100000




/-- The height after k steps. -/
def hs (s : ByteArray) : Nat → Int
  | 0 => 0
  | k + 1 => hs s k + (if bt s k = 85 then 1 else -1)
theorem hs_bound (s : ByteArray) : ∀ k : Nat, -(k : Int) ≤ hs s k ∧ hs s k ≤ k
  | 0 => by simp [hs]
  | k + 1 => by have := hs_bound s k; simp only [hs]; split <;> omega
def stepOk (s : ByteArray) (k : Nat) : Prop := (bt s k = 85 ∨ bt s k = 68) ∧ 0 ≤ hs s (k + 1)
def Good (s : ByteArray) (k : Nat) : Prop := ∀ j, j < k → stepOk s j
def OkPath (s : ByteArray) : Prop := Good s s.size ∧ hs s s.size = 0 ∧ s.size ≤ 16
theorem Good.succ {s k} (h : Good s k) (h2 : stepOk s k) : Good s (k + 1) := fun j hj => by
  rcases Nat.lt_or_ge j k with h3 | h3
  · exact h j h3
  · have : j = k := by omega
    subst this; exact h2
def hsL (s : ByteArray) (n : Nat) : List Int := (List.range n).map fun k => hs s (k + 1)
theorem hsL_succ (s : ByteArray) (n : Nat) : hsL s (n + 1) = hsL s n ++ [hs s (n + 1)] := by simp [hsL, List.range_succ]
theorem hsL_length (s : ByteArray) (n : Nat) : (hsL s n).length = n := by simp [hsL]




/-- A call that only adds to the world, and what it answers. -/
def Adds (f : FuncId) (args : Array Value) (w : World) (Q : Value → World → Prop) : Prop := Calls PP f args w fun e w' => ∃ v, e = .returned v ∧ Below w.heap.size w w' ∧ Q v w'

theorem c_implHeights (s : ByteArray) (hsz : s.size < 2 ^ 39) (w : World) :
    Calls PP F.impl_heights #[.string s] w fun e w' => ∃ (t : Sl) (b : Bool), e = .returned (.tuple #[t.v, .bool b]) ∧ Below w.heap.size w w' ∧ (b = true ↔ OkPath s) ∧ (b = true → RowI w' t (hsL s s.size)) := by
  refine impl_heights.calls s ?_
  rw [impl_heights.E_s]
  refine lit0 oneInt (B := w.heap.size) (Nat.le_refl _) ?_
  intro t0 w1 hown hg hc
  refine impl_heights.L4_rule _ _ _ _ _ _ _
    (I := fun t h k w' => 0 ≤ k ∧ k ≤ s.size ∧ h = hs s k.toNat ∧ Good s k.toNat ∧ OwnI w' w.heap.size t (hsL s k.toNat) ∧ Below w.heap.size w w')
    (μ := fun _ _ k _ => (s.size - k).toNat) ⟨by omega, by omega, rfl, fun j hj => by simp at hj, hown, below_of_grow hg⟩ ?_
  rintro t h k w' ⟨h0, hk, hh, hgood, hown, hb⟩
  have hbd := hs_bound s k.toNat
  have hsucc : (k + 1).toNat = k.toNat + 1 := by omega
  have hm : w.heap.size ≤ w'.heap.size := hb.size
  rw [impl_heights.B4_s]
  refine bif_dec (fun h3 => ?_) (fun h3 => ?_)
  · refine strIdx_intro h0 h3 ?_
    have bad : ¬ stepOk s k.toNat → impl_heights.q3 std (fun e w' => ∃ (t : Sl) (b : Bool), e = .returned (.tuple #[t.v, .bool b]) ∧ Below w.heap.size w w' ∧ (b = true ↔ OkPath s) ∧ (b = true → RowI w' t (hsL s s.size))) .ret [(2, Sl.v Sl.nil), (3, .bool false)] w' := by
      intro hbad
      rw [impl_heights.R4_s]
      exact ⟨_, _, rfl, hb, ⟨fun h => by simp at h, fun h => absurd (h.1 k.toNat (by omega)) hbad⟩, fun h => by simp at h⟩
    refine bif_intro (fun h4 => ?_) (fun h4 => bif_intro (fun h5 => ?_) (fun h5 => ?_))
    · have h4 : bt s k.toNat = 85 := by simpa using h4
      have e1 : w64 (h + 1) = hs s (k.toNat + 1) := by rw [hh, hs, if_pos h4, w64_id (by omega) (by omega)]
      simp only [e1]
      refine bif_dec (fun h6 => bad fun hg => by have := hg.2; omega) (fun h6 => ?_)
      refine append_int hown hm (by simp [hsL_length]; omega) ?_
      intro t' w2 h7 h8 h9
      refine ⟨t', hs s (k.toNat + 1), k + 1, by rw [w64_succ h0 (by omega)], ⟨by omega, by omega, by rw [hsucc], ?_, ?_, ?_⟩, by omega⟩
      · simp only [hsucc]; exact hgood.succ ⟨.inl h4, by omega⟩
      · simp only [hsucc, hsL_succ]; exact h7
      · exact hb.grown h8 hm (fun g hg => (hown.lt g hg).1)
    · have h4 : ¬ bt s k.toNat = 85 := by simpa using h4
      have h5 : bt s k.toNat = 68 := by simpa using h5
      have e1 : w64 (h - 1) = hs s (k.toNat + 1) := by rw [hh, hs, if_neg h4, w64_id (by omega) (by omega)]; rfl
      simp only [e1]
      refine bif_dec (fun h6 => bad fun hg => by have := hg.2; omega) (fun h6 => ?_)
      refine append_int hown hm (by simp [hsL_length]; omega) ?_
      intro t' w2 h7 h8 h9
      refine ⟨t', hs s (k.toNat + 1), k + 1, by rw [w64_succ h0 (by omega)], ⟨by omega, by omega, by rw [hsucc], ?_, ?_, ?_⟩, by omega⟩
      · simp only [hsucc]; exact hgood.succ ⟨.inr h5, by omega⟩
      · simp only [hsucc, hsL_succ]; exact h7
      · exact hb.grown h8 hm (fun g hg => (hown.lt g hg).1)
    · have h4 : ¬ bt s k.toNat = 85 := by simpa using h4
      have h5 : ¬ bt s k.toNat = 68 := by simpa using h5
      exact bad fun hg => by rcases hg.1 with h | h <;> contradiction
  · rw [impl_heights.A4_0_s]
    have : k.toNat = s.size := by omega
    rw [this] at hh hgood hown
    refine bif_intro (fun h4 => ?_) (fun h4 => ?_)
    · have h4 : h = 0 := by simpa using h4
      refine ⟨t, _, rfl, hb, ⟨fun h => ⟨hgood, by omega, by simp at h; omega⟩, fun h => by simp; have := h.2.2; omega⟩, fun _ => hown.row⟩
    · have h4 : ¬ h = 0 := by simpa using h4
      refine ⟨t, _, rfl, hb, ⟨fun h => by simp at h, fun h => absurd h.2.1 (by omega)⟩, fun h => by simp at h⟩

theorem c_specIsPath (s : ByteArray) (hsz : s.size < 2 ^ 39) : ∃ b : Bool, (b = true ↔ OkPath s) ∧ Pure F.spec_IsPath #[.string s] (.bool b) := by
  classical
  refine ⟨decide (OkPath s), by simp, fun w => ?_⟩
  refine spec_IsPath.calls s ?_
  rw [spec_IsPath.E_s]
  refine spec_IsPath.L3_rule _ _ _ _ _ (I := fun h k w' => w' = w ∧ 0 ≤ k ∧ k ≤ s.size ∧ h = hs s k.toNat ∧ Good s k.toNat) (μ := fun _ k _ => (s.size - k).toNat)
    ⟨rfl, by omega, by omega, rfl, fun j hj => by simp at hj⟩ ?_
  rintro h k w' ⟨rfl, h0, hk, hh, hgood⟩
  have hbd := hs_bound s k.toNat
  have hsucc : (k + 1).toNat = k.toNat + 1 := by omega
  rw [spec_IsPath.B3_s]
  refine bif_dec (fun h3 => ?_) (fun h3 => ?_)
  · refine strIdx_intro h0 h3 ?_
    have hJ : spec_IsPath.J8 std s (hs s (k.toNat + 1)) k w' (fun e2 w2 => ∃ h_3_n k_4_n, e2 = spec_IsPath.emb3 s h_3_n k_4_n ∧ (w2 = w' ∧ 0 ≤ k_4_n ∧ k_4_n ≤ s.size ∧ h_3_n = hs s k_4_n.toNat ∧ Good s k_4_n.toNat) ∧ (s.size - k_4_n).toNat < (s.size - k).toNat)
        (spec_IsPath.q1 std (fun e w'' => e = .returned (.bool (decide (OkPath s))) ∧ w'' = w')) := by
      have bad : ¬ stepOk s k.toNat → spec_IsPath.q1 std (fun e w'' => e = .returned (.bool (decide (OkPath s))) ∧ w'' = w') .ret [(2, .bool false)] w' := by
        intro hbad
        rw [spec_IsPath.R3_s]
        refine ⟨?_, rfl⟩
        have : ¬ OkPath s := fun h => hbad (h.1 k.toNat (by omega))
        simp [this]
      have good : stepOk s k.toNat → ∃ h_3_n k_4_n, spec_IsPath.emb3 s (hs s (k.toNat + 1)) (w64 (k + 1)) = spec_IsPath.emb3 s h_3_n k_4_n ∧ (w' = w' ∧ 0 ≤ k_4_n ∧ k_4_n ≤ s.size ∧ h_3_n = hs s k_4_n.toNat ∧ Good s k_4_n.toNat) ∧ (s.size - k_4_n).toNat < (s.size - k).toNat := by
        intro hg
        refine ⟨_, k + 1, by rw [w64_succ h0 (by omega)], ⟨rfl, by omega, by omega, by rw [hsucc], ?_⟩, by omega⟩
        rw [hsucc]; exact hgood.succ hg
      rw [spec_IsPath.J8_s]
      refine bif_dec (fun h6 => bad fun hg => by have := hg.2; omega) (fun h6 => ?_)
      refine strIdx_intro h0 h3 ?_
      refine bif_intro (fun h4 => ?_) (fun h4 => ?_)
      · have h4 : ¬ bt s k.toNat = 85 := by simpa using h4
        refine strIdx_intro h0 h3 ?_
        refine bif_intro (fun h5 => ?_) (fun h5 => ?_)
        · have h5 : ¬ bt s k.toNat = 68 := by simpa using h5
          exact bad fun hg => by rcases hg.1 with h | h <;> contradiction
        · have h5 : bt s k.toNat = 68 := by simpa using h5
          exact good ⟨.inr h5, by omega⟩
      · have h4 : bt s k.toNat = 85 := by simpa using h4
        exact good ⟨.inl h4, by omega⟩
    refine bif_intro (fun h4 => ?_) (fun h4 => ?_)
    · have h4 : bt s k.toNat = 85 := by simpa using h4
      have e1 : w64 (h + 1) = hs s (k.toNat + 1) := by rw [hh, hs, if_pos h4, w64_id (by omega) (by omega)]
      rw [e1]; exact hJ
    · have h4 : ¬ bt s k.toNat = 85 := by simpa using h4
      have e1 : w64 (h - 1) = hs s (k.toNat + 1) := by rw [hh, hs, if_neg h4, w64_id (by omega) (by omega)]; rfl
      rw [e1]; exact hJ
  · rw [spec_IsPath.A3_0_s]
    have : k.toNat = s.size := by omega
    rw [this] at hh hgood
    refine bif_intro (fun h4 => ?_) (fun h4 => ?_)
    · have h4 : h = 0 := by simpa using h4
      refine ⟨?_, rfl⟩
      have : ((s.size : Int) ≤ 16) ↔ OkPath s := ⟨fun h => ⟨hgood, by omega, by omega⟩, fun h => by have := h.2.2; omega⟩
      simp [this]
    · have h4 : ¬ h = 0 := by simpa using h4
      refine ⟨?_, rfl⟩
      have : ¬ OkPath s := fun h => absurd h.2.1 (by omega)
      simp [this]



theorem c_implIsPath (s : ByteArray) (hsz : s.size < 2 ^ 39) (w : World) :
    Calls PP F.impl_IsPath #[.string s] w fun e w' => ∃ b : Bool, e = .returned (.bool b) ∧ (b = true ↔ OkPath s) ∧ Below w.heap.size w w' := by
  refine impl_IsPath.calls s ?_
  rw [impl_IsPath.E_s]
  refine (c_implHeights s hsz w).mono ?_
  rintro e w' ⟨t, b, rfl, hb, hok, _⟩
  exact ⟨t, b, rfl, b, rfl, hok, hb⟩


end Go.Proofs.Ytfainpmcdfckkaa
