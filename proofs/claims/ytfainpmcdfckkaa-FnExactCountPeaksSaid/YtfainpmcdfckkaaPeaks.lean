/- CountPeaks: both texts, and the law. -/
import Derived.Test.YtfainpmcdfckkaaCodePk
import Derived.Test.YtfainpmcdfckkaaPath
import Derived.Test.YtfainpmcdfckkaaShelf
import Derived.Test.YtfainpmcdfckkaaPeaksMath
import Derived.Test.YtfainpmcdfckkaaFnVal
namespace Go.Proofs.Ytfainpmcdfckkaa
open Go Go.RowKit
set_option maxRecDepth 100000

theorem bt_getD {s : ByteArray} {k : Nat} (h : k < s.size) : bt s k = ((s.data.toList.getD k 0).toNat : Int) := by
  have h2 : k < s.data.toList.length := h
  unfold bt
  rw [getElem?_pos s k h, List.getD_eq_getElem?_getD, List.getElem?_eq_getElem h2]
  rfl
theorem bt_eq {s : ByteArray} {k : Nat} (h : k < s.size) (c : UInt8) : (bt s k == (c.toNat : Int)) = (s.data.toList.getD k 0 == c) := by
  rw [bt_getD h, Bool.eq_iff_iff, beq_iff_eq, beq_iff_eq]
  constructor
  · intro h; exact UInt8.toNat_inj.1 (by omega)
  · intro h; rw [h]
theorem pkN_succ (l : List UInt8) (n : Nat) : pkN' l (n + 1) = pkN' l n + if pkAt l n = true then 1 else 0 := by
  unfold pkN'
  rw [List.range_succ, List.countP_append, List.countP_singleton]
open Classical in
noncomputable def CountPeaksV (s : ByteArray) : Int := if OkPath s then (pkN' s.data.toList s.size : Int) else -1
theorem pkN_le (l : List UInt8) (n : Nat) : pkN' l n ≤ n := by
  have := List.countP_le_length (p := pkAt l) (l := List.range n)
  rwa [List.length_range] at this
theorem c_specCountPeaks (s : ByteArray) (hsz : s.size < 2 ^ 39) : Pure F.spec_CountPeaks #[.string s] (vI (CountPeaksV s)) := by
  intro w
  refine spec_CountPeaks.calls s ?_
  rw [spec_CountPeaks.E_s]
  obtain ⟨b, hb, hc⟩ := c_specIsPath s hsz
  refine Pure.call1 (s := .bool) hc ?_
  refine bif_intro (fun h => ?_) (fun h => ?_)
  · have h : ¬ OkPath s := fun hh => by rw [hb.2 hh] at h; cases h
    exact ⟨by rw [CountPeaksV, if_neg h], rfl⟩
  have hP : OkPath s := hb.1 (by simpa using h)
  have h16 := hP.2.2
  have hV : CountPeaksV s = (pkN' s.data.toList s.size : Int) := by rw [CountPeaksV, if_pos hP]
  rw [hV]
  refine spec_CountPeaks.L5_rule _ _ _ _ _ (I := fun n k w' => w' = w ∧ 1 ≤ k ∧ (k ≤ s.size ∨ k = 1) ∧ n = (pkN' s.data.toList (k.toNat - 1) : Int)) (μ := fun _ k _ => (s.size - k).toNat) ⟨rfl, by omega, by omega, rfl⟩ ?_
  rintro n k w' ⟨rfl, h0, hk, hn⟩
  rw [spec_CountPeaks.B5_s]
  refine bif_dec (fun h3 => ?_) (fun h3 => ?_)
  · obtain ⟨m, rfl⟩ : ∃ m : Nat, k = (m : Int) + 1 := ⟨k.toNat - 1, by omega⟩
    have e1 : w64 ((m : Int) + 1 - 1) = m := by rw [w64_id (by omega) (by omega)]; omega
    have e2 : ((m : Int) + 1).toNat - 1 = m := by omega
    have e3 : ((m : Int) + 1 + 1).toNat - 1 = m + 1 := by omega
    have e4 : ((m : Int) + 1).toNat = m + 1 := by omega
    rw [e2] at hn
    rw [e1]
    have hle := pkN_le s.data.toList m
    have hs := pkN_succ s.data.toList m
    refine strIdx_intro (by omega) (by omega) ?_
    rw [Int.toNat_natCast]
    have b1 := bt_eq (s := s) (k := m) (by omega) 85
    have b2 := bt_eq (s := s) (k := m + 1) (by omega) 68
    refine bif_intro (fun h4 => ?_) (fun h4 => ?_)
    · refine strIdx_intro (by omega) (by omega) ?_
      rw [e4]
      refine Pure.pcall1 (s := .int .i64) (c_l1Bit _) ?_
      have h5 : (s.data.toList.getD m 0 == 85) = true := by rw [← b1]; exact h4
      have hp : pkAt s.data.toList m = (bt s (m + 1) == 68) := by
        rw [pkAt, h5, Bool.true_and, ← b2]; rfl
      refine ⟨_, (m : Int) + 1 + 1, by rw [w64_succ (n := (m : Int) + 1) (by omega) (by omega)], ⟨rfl, by omega, by omega, ?_⟩, by omega⟩
      rw [e3, hs, hp, hn]
      by_cases h6 : (bt s (m + 1) == 68) = true
      · rw [if_pos h6, if_pos h6, w64_id (by omega) (by omega)]; omega
      · rw [if_neg h6, if_neg h6, w64_id (by omega) (by omega)]; omega
    · refine Pure.pcall1 (s := .int .i64) (c_l1Bit _) ?_
      have h5 : (s.data.toList.getD m 0 == 85) = false := by rw [← b1]; exact h4
      have hp : pkAt s.data.toList m = false := by rw [pkAt, h5, Bool.false_and]
      refine ⟨_, (m : Int) + 1 + 1, by rw [w64_succ (n := (m : Int) + 1) (by omega) (by omega)], ⟨rfl, by omega, by omega, ?_⟩, by omega⟩
      rw [e3, hs, hp, hn]
      simp only [Bool.false_eq_true, if_false]
      rw [w64_id (by omega) (by omega)]; omega
  · rw [spec_CountPeaks.A5_0_s]
    refine ⟨?_, rfl⟩
    rw [hn]
    by_cases h4 : s.size = 0
    · have : k.toNat - 1 = s.size := by omega
      rw [this]
    · obtain ⟨m, hm⟩ : ∃ m, s.size = m + 1 := ⟨s.size - 1, by omega⟩
      have e : k.toNat - 1 = m := by omega
      have hp : pkAt s.data.toList m = false := by
        have : s.data.toList.getD (m + 1) 0 = 0 := by
          rw [List.getD_eq_getElem?_getD, List.getElem?_eq_none (by have : s.data.toList.length = s.size := rfl; omega)]; rfl
        rw [pkAt, this]; simp
      rw [e, hm, pkN_succ, hp]; simp
theorem c_implCountPeaks (s : ByteArray) (hsz : s.size < 2 ^ 31) (w : World) {m : Int} (hm : w.cell? ⟨0, 0, none⟩ = some (.int .i64 m)) :
    Calls PP F.impl_CountPeaks #[.string s] w fun e w' => e = .returned (vI (CountPeaksV s)) ∧ Below w.heap.size w w' := by
  refine impl_CountPeaks.calls s ?_
  rw [impl_CountPeaks.E_s]
  refine (c_implIsPath s (by omega) w).mono ?_
  rintro e w1 ⟨b, rfl, hb, hb1⟩
  refine ⟨b, rfl, ?_⟩
  refine bif_intro (fun h => ?_) (fun h => ?_)
  · have h : ¬ OkPath s := fun hh => by rw [hb.2 hh] at h; cases h
    exact ⟨by rw [CountPeaksV, if_neg h], hb1⟩
  have hP : OkPath s := hb.1 (by simpa using h)
  refine (Try.strings_Count s ⟨#[85, 68]⟩ m w1 (by omega) (cell_grow hm hb1) (by decide)).mono ?_
  rintro e w2 ⟨rfl, rfl⟩
  refine ⟨_, rfl, ?_, hb1⟩
  rw [CountPeaksV, if_pos hP]
  have := count_pk s.data.toList.length s.data.toList (Nat.le_refl _)
  have h2 : Lib.countB s ⟨#[85, 68]⟩ = Lib.count s.data.toList UD := rfl
  rw [h2, this]
  rfl
theorem lawC_FnExactCountPeaks (s : ByteArray) (hs : s.size ≤ maxLen) (w : World) (hsh : w.ShapedOpen PP) :
    Calls PP F.laws_FnExactCountPeaks #[.string s] w fun e w' => e = .returned (.bool true) ∧ Below w.heap.size w w' := by
  obtain ⟨m, hm⟩ := Try.laysM138.s1_3 w hsh
  refine laws_FnExactCountPeaks.calls s ?_
  rw [laws_FnExactCountPeaks.E_s]
  refine bif_dec (fun h => ⟨rfl, Below.refl _ _⟩) (fun h => ?_)
  refine Pure.call1 (s := .int .i64) (c_specCountPeaks s (by omega)) ?_
  refine (c_implCountPeaks s (by omega) w hm).mono ?_
  rintro e w1 ⟨rfl, hb⟩
  refine ⟨_, rfl, ?_⟩
  refine bif_intro (fun h2 => ?_) (fun h2 => ?_)
  · simp at h2
  · exact ⟨rfl, hb⟩
end Go.Proofs.Ytfainpmcdfckkaa
