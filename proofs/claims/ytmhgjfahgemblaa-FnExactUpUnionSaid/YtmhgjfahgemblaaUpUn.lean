/- UpUnion: both texts. -/
import Derived.Test.YtmhgjfahgemblaaCodeUp
import Derived.Test.YtmhgjfahgemblaaInsI
import Derived.Test.YtmhgjfahgemblaaUpGr
import Derived.Test.YtmhgjfahgemblaaR3
import Derived.Test.YtmhgjfahgemblaaLaw2
namespace Go.Proofs.Ytmhgjfahgemblaa
open Go Go.RowKit
set_option maxRecDepth 100000

open Classical in
noncomputable def UpUnionV (L : List Int) (k : Int) : Int := if IsP L ∧ 0 ≤ k ∧ k ≤ 8 then (tots ((insP L).take k.toNat) : Int) else -1
theorem bitAll : ∀ (s : Fin 256) (i : Fin 8), bAnd .i64 (sShr .i64 ((s : Nat) : Int) (IntKind.u64.wrap ((i : Nat) : Int))) 1 = if (s : Nat).testBit i then 1 else 0 := by decide +kernel
theorem bit_eq {s i : Int} (hs0 : 0 ≤ s) (hs : s < 256) (hi0 : 0 ≤ i) (hi : i < 8) : bAnd .i64 (sShr .i64 s (IntKind.u64.wrap i)) 1 = if s.toNat.testBit i.toNat then 1 else 0 := by
  have := bitAll ⟨s.toNat, by omega⟩ ⟨i.toNat, by omega⟩
  simp only at this
  rwa [Int.toNat_of_nonneg hs0, Int.toNat_of_nonneg hi0] at this
theorem wrapAll : ∀ n : Fin 9, (0 : Int) ≤ IntKind.u64.wrap ((n : Nat) : Int) ∧ sShl .i64 1 (IntKind.u64.wrap ((n : Nat) : Int)) = ((2 ^ (n : Nat) : Nat) : Int) := by decide +kernel
theorem wrap_eq {n : Nat} (hn : n ≤ 8) : (0 : Int) ≤ IntKind.u64.wrap (n : Int) ∧ sShl .i64 1 (IntKind.u64.wrap (n : Int)) = ((2 ^ n : Nat) : Int) := wrapAll ⟨n, by omega⟩
theorem c_specUpUnion {w : World} {a : Sl} {L : List Int} (ha : RowI w a L) (hL : L.length < 2^38) (k : Int) :
    Calls PP F.spec_UpUnion #[a.v, vI k] w fun e w' => e = .returned (vI (UpUnionV L k)) ∧ Below w.heap.size w w' := by
  have han : a.n = L.length := by have := ha.n; simpa using this
  refine spec_UpUnion.calls a k ?_
  rw [spec_UpUnion.E_s]
  refine Quiet.call1 (s := .bool) (c_specIsPerm ha hL) ?_
  intro w1 hd1
  have hb1 := hd1.below w.heap.size
  refine bif_intro (fun h => ?_) (fun h => ?_)
  · rw [UpUnionV, if_neg (fun hh => by simp [hh.1] at h)]; exact ⟨rfl, hb1⟩
  have hP : IsP L := by simpa using h
  refine Pure.pcall1 (s := .bool) (c_l1In k 0 8) ?_
  refine bif_intro (fun h2 => ?_) (fun h2 => ?_)
  · rw [UpUnionV, if_neg (fun hh => by have h3 := hh.2; simp at h2; omega)]; exact ⟨rfl, hb1⟩
  have hk : 0 ≤ k ∧ k ≤ 8 := by simp at h2; omega
  have h8 := hP.1
  have hnd : L.Nodup := (permOk_iff.1 hP.2).1
  rw [UpUnionV, if_pos ⟨hP, hk⟩]
  obtain ⟨hw0, hw1⟩ := wrap_eq h8
  have h256 : 2 ^ L.length ≤ 256 := Nat.pow_le_pow_right (n := 2) (by omega) h8
  refine spec_UpUnion.L5_rule _ _ _ _ _ _ (I := fun best s w' => 0 ≤ s ∧ s ≤ ((2 ^ L.length : Nat) : Int) ∧ best = bestU L k s.toNat ∧ Below w.heap.size w w') (μ := fun _ s _ => (((2 ^ L.length : Nat) : Int) - s).toNat) ⟨by omega, Int.natCast_nonneg _, rfl, hb1⟩ ?_
  rintro best s w2 ⟨hs0, hs, rfl, hb2⟩
  rw [spec_UpUnion.B5_s, han, hw1]
  refine ⟨hw0, ?_⟩
  refine bif_dec (fun h3 => ?_) (fun h3 => ?_)
  · refine lit0 oneInt (B := w.heap.size) hb2.size ?_
    intro t0 w3 ht0 hg3 _
    refine spec_UpUnion.L9_rule _ _ _ _ _ _ _ _ (I := fun t i w' => 0 ≤ i ∧ i ≤ L.length ∧ OwnI w' w.heap.size t (part L s.toNat i.toNat) ∧ Below w.heap.size w w') (μ := fun _ i _ => (L.length - i).toNat)
      ⟨by omega, by omega, by simpa [part, OwnI] using ht0, hb2.trans ((below_of_grow hg3).mono hb2.size)⟩ ?_
    rintro t i w4 ⟨hi0, hi, ht, hb4⟩
    have hpl := part_len L s.toNat i.toNat
    rw [spec_UpUnion.B9_s, han]
    refine bif_dec (fun h4 => ?_) (fun h4 => ?_)
    · rw [bit_eq hs0 (by omega) hi0 (by omega)]
      have hwi := (wrap_eq (n := i.toNat) (by omega)).1
      rw [Int.toNat_of_nonneg hi0] at hwi
      refine ⟨hwi, ?_⟩
      refine bif_intro (fun h5 => ?_) (fun h5 => ?_)
      · have hbit : s.toNat.testBit i.toNat = true := by
          cases hb : s.toNat.testBit i.toNat
          · rw [hb] at h5; simp at h5
          · rfl
        refine RowI.get (ha.grow hb4) hi0 (by omega) ?_
        refine append_int ht hb4.size (by omega) ?_
        intro t' w5 ht' hg5 _
        refine ⟨t', i + 1, by rw [w64_succ hi0 (by omega)], ⟨by omega, by omega, ?_, hb4.grown hg5 hb4.size (fun g hg => (ht.lt g hg).1)⟩, by omega⟩
        rw [show (i + 1).toNat = i.toNat + 1 by omega, part, if_pos hbit]; exact ht'
      · have hbit : s.toNat.testBit i.toNat = false := by
          cases hb : s.toNat.testBit i.toNat
          · rfl
          · rw [hb] at h5; simp at h5
        refine ⟨t, i + 1, by rw [w64_succ hi0 (by omega)], ⟨by omega, by omega, ?_, hb4⟩, by omega⟩
        rw [show (i + 1).toNat = i.toNat + 1 by omega, part, hbit]
        simpa using ht
    · rw [spec_UpUnion.A9_2_s]
      have ei : i.toNat = L.length := by omega
      rw [ei] at ht hpl
      have htn : t.n = (part L s.toNat L.length).length := by have := ht.n; simpa using this
      rw [htn]
      have es : (s + 1).toNat = s.toNat + 1 := by omega
      have stay : ¬ (((part L s.toNat L.length).length : Int) > bestU L k s.toNat ∧ luV (part L s.toNat L.length).reverse ≤ k) → bestU L k s.toNat = bestU L k (s + 1).toNat := fun hn => by rw [es, bestU, if_neg hn]
      refine bif_dec (fun h5 => ?_) (fun h5 => ?_)
      · refine (c_l3Reverse ht.row (by omega)).mono ?_
        rintro e w5 ⟨r, rfl, hr, hb5⟩
        refine ⟨r, rfl, ?_⟩
        have hb45 := hb4.trans (hb5.mono hb4.size)
        refine (c_l20Up hr.row (by rw [List.length_reverse]; omega)).mono ?_
        rintro e w6 ⟨rfl, hb6⟩
        refine ⟨_, rfl, ?_⟩
        have hb46 := hb45.trans (hb6.mono hb45.size)
        refine bif_dec (fun h6 => ?_) (fun h6 => ?_)
        · refine ⟨_, s + 1, by rw [w64_succ hs0 (by omega)], ⟨by omega, by omega, ?_, hb46⟩, by omega⟩
          rw [es, bestU, if_pos ⟨h5, h6⟩]
        · exact ⟨_, s + 1, by rw [w64_succ hs0 (by omega)], ⟨by omega, by omega, stay fun hh => h6 hh.2, hb46⟩, by omega⟩
      · exact ⟨_, s + 1, by rw [w64_succ hs0 (by omega)], ⟨by omega, by omega, stay fun hh => h5 hh.1, hb4⟩, by omega⟩
  · rw [spec_UpUnion.A5_0_s]
    have e : s.toNat = 2 ^ L.length := by omega
    rw [e]
    have := bestU_greene hnd hL k.toNat
    rw [Int.toNat_of_nonneg hk.1] at this
    exact ⟨by rw [this], hb2⟩
theorem tots_take_succ {T : List (List Int)} {i : Nat} (h : i < T.length) : tots (T.take (i + 1)) = tots (T.take i) + (T.getD i []).length := tot_take_succ h
theorem tots_le {L : List Int} (k : Nat) : tots ((insP L).take k) ≤ L.length := by
  have h1 := tot_take_le (insP L) k
  have h2 := insP_flat L
  rw [List.length_flatten] at h2
  have : tot (insP L) = L.length := h2
  have h3 : tots ((insP L).take k) = tot ((insP L).take k) := rfl
  omega
theorem c_implUpUnion {w : World} {a : Sl} {L : List Int} (ha : RowI w a L) (hL : L.length < 2^38) (k : Int) :
    Calls PP F.impl_UpUnion #[a.v, vI k] w fun e w' => e = .returned (vI (UpUnionV L k)) ∧ Below w.heap.size w w' := by
  refine impl_UpUnion.calls a k ?_
  rw [impl_UpUnion.E_s]
  refine (c_implInsertPerm ha hL).mono ?_
  rintro e w1 ⟨s, t, rs, rt, rfl, hs, _, _, hb1⟩
  refine ⟨s, t, _, rfl, ?_⟩
  refine bif_intro (fun h => ?_) (fun h => ?_)
  · rw [UpUnionV, if_neg (fun hh => by simp [InsertPermV2, hh.1] at h)]; exact ⟨rfl, hb1⟩
  have hP : IsP L := by simpa [InsertPermV2] using h
  refine bif_dec (fun h2 => ?_) (fun h2 => ?_)
  · rw [UpUnionV, if_neg (fun hh => by omega)]; exact ⟨rfl, hb1⟩
  refine bif_dec (fun h3 => ?_) (fun h3 => ?_)
  · rw [UpUnionV, if_neg (fun hh => by omega)]; exact ⟨rfl, hb1⟩
  rw [UpUnionV, if_pos ⟨hP, by omega, by omega⟩]
  rw [InsertPermV, if_pos hP] at hs
  have hsn := hs.n
  have h8 := hP.1
  have hlen := insP_tot hP
  rw [InsertPermV, if_pos hP] at hlen
  refine impl_UpUnion.L6_rule _ _ _ _ _ _ _ (I := fun sum i w' => w' = w1 ∧ 0 ≤ i ∧ i ≤ (insP L).length ∧ sum = tots ((insP L).take (min i.toNat k.toNat))) (μ := fun _ i _ => ((insP L).length - i).toNat) ⟨rfl, by omega, by omega, by simp [tots]⟩ ?_
  rintro sum i w2 ⟨rfl, hi0, hi, rfl⟩
  rw [impl_UpUnion.B6_s, hsn]
  refine bif_dec (fun h4 => ?_) (fun h4 => ?_)
  · refine hs.load hi0 (by omega) fun r _ hr => ?_
    have hrn : r.n = ((insP L).getD i.toNat []).length := by have := hr.n; simpa using this
    rw [hrn]
    refine bif_dec (fun h5 => ?_) (fun h5 => ?_)
    · have h6 := tots_take_succ (T := insP L) (i := i.toNat) (by omega)
      have h7 := tots_le (L := L) (i.toNat + 1)
      have h9 := tots_le (L := L) (min i.toNat k.toNat)
      refine ⟨_, i + 1, by rw [w64_succ hi0 (by omega), w64_id (by omega) (by omega)], ⟨rfl, by omega, by omega, ?_⟩, by omega⟩
      rw [show min (i + 1).toNat k.toNat = i.toNat + 1 by omega, h6, show min i.toNat k.toNat = i.toNat by omega]
      simp
    · refine ⟨_, i + 1, by rw [w64_succ hi0 (by omega)], ⟨rfl, by omega, by omega, ?_⟩, by omega⟩
      rw [show min (i + 1).toNat k.toNat = min i.toNat k.toNat by omega]
  · rw [impl_UpUnion.A6_0_s]
    refine ⟨?_, hb1⟩
    congr 2
    have e : (insP L).take (min i.toNat k.toNat) = (insP L).take k.toNat := by
      rw [show i.toNat = (insP L).length by omega]
      rcases Nat.le_total (insP L).length k.toNat with h5 | h5
      · rw [Nat.min_eq_left h5, List.take_length, List.take_of_length_le h5]
      · rw [Nat.min_eq_right h5]
    rw [e]
end Go.Proofs.Ytmhgjfahgemblaa
