/- The walks of CountReturns and PathHeight, and their laws. -/
import Derived.Test.YtjnikeemcbhmkaaPath
namespace Go.Proofs.Ytjnikeemcbhmkaa
open Go Go.RowKit

def cntZ (L : List Int) : Nat → Int
  | 0 => 0
  | k + 1 => w64 (cntZ L k + (if L.getD k 0 = 0 then 1 else 0))
theorem cntZ_bound (L : List Int) : ∀ k : Nat, k < 2 ^ 39 → 0 ≤ cntZ L k ∧ cntZ L k ≤ k
  | 0, _ => by simp [cntZ]
  | k + 1, h => by
    have := cntZ_bound L k (by omega)
    simp only [cntZ]
    split
    · rw [w64_id (by omega) (by omega)]; omega
    · rw [w64_id (by omega) (by omega)]; omega
def maxZ (L : List Int) : Nat → Int
  | 0 => 0
  | k + 1 => max (maxZ L k) (L.getD k 0)
open Classical in
noncomputable def retV (s : ByteArray) : Int := if OkPath s then cntZ (hsL s s.size) s.size else -1
open Classical in
noncomputable def phV (s : ByteArray) : Int := if OkPath s then maxZ (hsL s s.size) s.size else -1

theorem c_implCountReturns (s : ByteArray) (hsz : s.size < 2 ^ 39) (w : World) :
    Calls PP F.impl_CountReturns #[.string s] w fun e w' => e = .returned (vI (retV s)) ∧ Below w.heap.size w w' := by
  refine impl_CountReturns.calls s ?_
  rw [impl_CountReturns.E_s]
  refine (c_implHeights s hsz w).mono ?_
  rintro e w1 ⟨t, b, rfl, hb, hok, hrow⟩
  refine ⟨t, b, rfl, ?_⟩
  refine bif_intro (fun h => ?_) (fun h => ?_)
  · have : ¬ OkPath s := fun hh => by rw [hok.2 hh] at h; simp at h
    exact ⟨by rw [retV, if_neg this], hb⟩
  have hbt : b = true := by simpa using h
  have hok' := hok.1 hbt
  have hrow := hrow hbt
  have htn : t.n = s.size := by rw [hrow.n]; simp [hsL_length]
  refine impl_CountReturns.L6_rule _ _ _ _ _ _ (I := fun m k w' => w' = w1 ∧ 0 ≤ k ∧ k ≤ s.size ∧ m = cntZ (hsL s s.size) k.toNat) (μ := fun _ k _ => (s.size - k).toNat)
    ⟨rfl, by omega, by omega, rfl⟩ ?_
  rintro m k w' ⟨rfl, h0, hk, hm⟩
  have hsucc : (k + 1).toNat = k.toNat + 1 := by omega
  rw [impl_CountReturns.B6_s]
  refine bif_dec (fun h3 => ?_) (fun h3 => ?_)
  · refine hrow.get h0 (by rw [hsL_length]; omega) ?_
    have hbd := cntZ_bound (hsL s s.size) k.toNat (by omega)
    refine bif_intro (fun h4 => ?_) (fun h4 => ?_)
    · have h4 : (hsL s s.size).getD k.toNat 0 = 0 := by simpa using h4
      refine ⟨w64 (m + 1), k + 1, by rw [w64_succ h0 (by omega)], ⟨rfl, by omega, by omega, ?_⟩, by omega⟩
      rw [hsucc, cntZ, if_pos h4, hm]
    · have h4 : ¬ (hsL s s.size).getD k.toNat 0 = 0 := by simpa using h4
      refine ⟨m, k + 1, by rw [w64_succ h0 (by omega)], ⟨rfl, by omega, by omega, ?_⟩, by omega⟩
      rw [hsucc, cntZ, if_neg h4, hm, w64_id (by omega) (by omega)]; omega
  · rw [impl_CountReturns.A6_0_s]
    have : k.toNat = s.size := by omega
    rw [this] at hm
    exact ⟨by rw [retV, if_pos hok', hm], hb⟩

theorem c_specCountReturns (s : ByteArray) (hsz : s.size < 2 ^ 39) (w : World) :
    Calls PP F.spec_CountReturns #[.string s] w fun e w' => e = .returned (vI (retV s)) ∧ Below w.heap.size w w' := by
  refine spec_CountReturns.calls s ?_
  rw [spec_CountReturns.E_s]
  obtain ⟨b, hok, hp⟩ := c_specIsPath s hsz
  refine Pure.call1 (s := .bool) hp ?_
  refine bif_intro (fun h => ?_) (fun h => ?_)
  · have : ¬ OkPath s := fun hh => by rw [hok.2 hh] at h; simp at h
    exact ⟨by rw [retV, if_neg this], Below.refl _ _⟩
  have hok' := hok.1 (by simpa using h)
  refine (c_specHeights s hsz w).mono ?_
  rintro e w1 ⟨t, rfl, hb, hrow⟩
  refine ⟨t, rfl, ?_⟩
  have htn : t.n = s.size := by rw [hrow.n]; simp [hsL_length]
  refine spec_CountReturns.L6_rule _ _ _ _ _ (I := fun m k w' => w' = w1 ∧ 0 ≤ k ∧ k ≤ s.size ∧ m = cntZ (hsL s s.size) k.toNat) (μ := fun _ k _ => (s.size - k).toNat)
    ⟨rfl, by omega, by omega, rfl⟩ ?_
  rintro m k w' ⟨rfl, h0, hk, hm⟩
  have hsucc : (k + 1).toNat = k.toNat + 1 := by omega
  rw [spec_CountReturns.B6_s]
  refine bif_dec (fun h3 => ?_) (fun h3 => ?_)
  · refine hrow.get h0 (by rw [hsL_length]; omega) ?_
    refine Pure.pcall1 (s := .int .i64) (c_l1Bit _) ?_
    refine ⟨_, k + 1, by rw [w64_succ h0 (by omega)], ⟨rfl, by omega, by omega, ?_⟩, by omega⟩
    rw [hsucc, cntZ, hm]
    simp only [beq_iff_eq]
  · rw [spec_CountReturns.A6_0_s]
    have : k.toNat = s.size := by omega
    rw [this] at hm
    exact ⟨by rw [retV, if_pos hok', hm], hb⟩

theorem c_implPathHeight (s : ByteArray) (hsz : s.size < 2 ^ 39) (w : World) :
    Calls PP F.impl_PathHeight #[.string s] w fun e w' => e = .returned (vI (phV s)) ∧ Below w.heap.size w w' := by
  refine impl_PathHeight.calls s ?_
  rw [impl_PathHeight.E_s]
  refine (c_implHeights s hsz w).mono ?_
  rintro e w1 ⟨t, b, rfl, hb, hok, hrow⟩
  refine ⟨t, b, rfl, ?_⟩
  refine bif_intro (fun h => ?_) (fun h => ?_)
  · have : ¬ OkPath s := fun hh => by rw [hok.2 hh] at h; simp at h
    exact ⟨by rw [phV, if_neg this], hb⟩
  have hbt : b = true := by simpa using h
  have hok' := hok.1 hbt
  have hrow := hrow hbt
  have htn : t.n = s.size := by rw [hrow.n]; simp [hsL_length]
  refine impl_PathHeight.L6_rule _ _ _ _ _ _ (I := fun m k w' => w' = w1 ∧ 0 ≤ k ∧ k ≤ s.size ∧ m = maxZ (hsL s s.size) k.toNat) (μ := fun _ k _ => (s.size - k).toNat)
    ⟨rfl, by omega, by omega, rfl⟩ ?_
  rintro m k w' ⟨rfl, h0, hk, hm⟩
  have hsucc : (k + 1).toNat = k.toNat + 1 := by omega
  rw [impl_PathHeight.B6_s]
  refine bif_dec (fun h3 => ?_) (fun h3 => ?_)
  · refine hrow.get h0 (by rw [hsL_length]; omega) ?_
    refine ⟨_, k + 1, by rw [w64_succ h0 (by omega)], ⟨rfl, by omega, by omega, ?_⟩, by omega⟩
    rw [hsucc, maxZ, hm]
    simp only [Int.max_def]
    split <;> split <;> omega
  · rw [impl_PathHeight.A6_0_s]
    have : k.toNat = s.size := by omega
    rw [this] at hm
    exact ⟨by rw [phV, if_pos hok', hm], hb⟩

theorem c_specPathHeight (s : ByteArray) (hsz : s.size < 2 ^ 39) (w : World) :
    Calls PP F.spec_PathHeight #[.string s] w fun e w' => e = .returned (vI (phV s)) ∧ Below w.heap.size w w' := by
  refine spec_PathHeight.calls s ?_
  rw [spec_PathHeight.E_s]
  obtain ⟨b, hok, hp⟩ := c_specIsPath s hsz
  refine Pure.call1 (s := .bool) hp ?_
  refine bif_intro (fun h => ?_) (fun h => ?_)
  · have : ¬ OkPath s := fun hh => by rw [hok.2 hh] at h; simp at h
    exact ⟨by rw [phV, if_neg this], Below.refl _ _⟩
  have hok' := hok.1 (by simpa using h)
  refine (c_specHeights s hsz w).mono ?_
  rintro e w1 ⟨t, rfl, hb, hrow⟩
  refine ⟨t, rfl, ?_⟩
  have htn : t.n = s.size := by rw [hrow.n]; simp [hsL_length]
  refine spec_PathHeight.L6_rule _ _ _ _ _ (I := fun m k w' => w' = w1 ∧ 0 ≤ k ∧ k ≤ s.size ∧ m = maxZ (hsL s s.size) k.toNat) (μ := fun _ k _ => (s.size - k).toNat)
    ⟨rfl, by omega, by omega, rfl⟩ ?_
  rintro m k w' ⟨rfl, h0, hk, hm⟩
  have hsucc : (k + 1).toNat = k.toNat + 1 := by omega
  rw [spec_PathHeight.B6_s]
  refine bif_dec (fun h3 => ?_) (fun h3 => ?_)
  · refine hrow.get h0 (by rw [hsL_length]; omega) ?_
    refine Pure.pcall1 (s := .int .i64) (c_l1Max _ _) ?_
    refine ⟨_, k + 1, by rw [w64_succ h0 (by omega)], ⟨rfl, by omega, by omega, ?_⟩, by omega⟩
    rw [hsucc, maxZ, hm]
  · rw [spec_PathHeight.A6_0_s]
    have : k.toNat = s.size := by omega
    rw [this] at hm
    exact ⟨by rw [phV, if_pos hok', hm], hb⟩

theorem lawC_FnExactCountReturns (s : ByteArray) (_ : s.size ≤ maxLen) (w : World) : Calls PP F.laws_FnExactCountReturns #[.string s] w fun e w' => e = .returned (.bool true) ∧ Below w.heap.size w w' := by
  refine laws_FnExactCountReturns.calls s ?_
  rw [laws_FnExactCountReturns.E_s]
  refine bif_dec (fun h => ⟨rfl, Below.refl _ _⟩) (fun h => ?_)
  have hsz : s.size < 2 ^ 39 := by omega
  refine (c_specCountReturns s hsz w).mono ?_
  rintro e w1 ⟨rfl, hb1⟩
  refine ⟨_, rfl, ?_⟩
  refine (c_implCountReturns s hsz w1).mono ?_
  rintro e w2 ⟨rfl, hb2⟩
  refine ⟨_, rfl, ?_⟩
  simp [hb1.trans (hb2.mono hb1.size)]
theorem lawC_FnExactPathHeight (s : ByteArray) (_ : s.size ≤ maxLen) (w : World) : Calls PP F.laws_FnExactPathHeight #[.string s] w fun e w' => e = .returned (.bool true) ∧ Below w.heap.size w w' := by
  refine laws_FnExactPathHeight.calls s ?_
  rw [laws_FnExactPathHeight.E_s]
  refine bif_dec (fun h => ⟨rfl, Below.refl _ _⟩) (fun h => ?_)
  have hsz : s.size < 2 ^ 39 := by omega
  refine (c_specPathHeight s hsz w).mono ?_
  rintro e w1 ⟨rfl, hb1⟩
  refine ⟨_, rfl, ?_⟩
  refine (c_implPathHeight s hsz w1).mono ?_
  rintro e w2 ⟨rfl, hb2⟩
  refine ⟨_, rfl, ?_⟩
  simp [hb1.trans (hb2.mono hb1.size)]
end Go.Proofs.Ytjnikeemcbhmkaa
