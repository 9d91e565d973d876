/- PermOfPath: both texts, and the law. -/
import Derived.Test.YtfainpmcdfckkaaCodeP
import Derived.Test.YtfainpmcdfckkaaPath
import Derived.Test.YtfainpmcdfckkaaDel
import Derived.Test.YtfainpmcdfckkaaPermMath
import Derived.Test.YtfainpmcdfckkaaLaw2
namespace Go.Proofs.Ytfainpmcdfckkaa
open Go Go.RowKit
set_option maxRecDepth 100000

/-- The letters U among the first k. -/
def nU (s : ByteArray) : Nat → Nat
  | 0 => 0
  | k + 1 => nU s k + (if bt s k = 85 then 1 else 0)
theorem hs_nU (s : ByteArray) : ∀ k, hs s k = 2 * (nU s k : Int) - k
  | 0 => by simp [hs, nU]
  | k + 1 => by have := hs_nU s k; simp only [hs, nU]; split <;> omega
theorem nU_mono (s : ByteArray) (k d : Nat) : nU s k ≤ nU s (k + d) := by
  induction d with
  | zero => exact Nat.le_refl _
  | succ d ih => rw [← Nat.add_assoc, nU]; omega
theorem nU_le (s : ByteArray) : ∀ k, nU s k ≤ k
  | 0 => by simp [nU]
  | k + 1 => by have := nU_le s k; simp only [nU]; split <;> omega
/-- What is left and what has come out, behind k letters. -/
def pst (s : ByteArray) : Nat → List Int × List Int
  | 0 => (idn (s.size / 2), [])
  | k + 1 => if bt s k = 68 then ((pst s k).1.take ((pst s k).1.length - 1 - (hs s (k + 1)).toNat) ++ (pst s k).1.drop ((pst s k).1.length - 1 - (hs s (k + 1)).toNat + 1), (pst s k).2 ++ [(pst s k).1.getD ((pst s k).1.length - 1 - (hs s (k + 1)).toNat) 0]) else pst s k
theorem ok_facts {s : ByteArray} (h : OkPath s) : nU s s.size = s.size / 2 ∧ s.size = 2 * (s.size / 2) ∧ s.size / 2 ≤ 8 := by
  have := hs_nU s s.size
  have := h.2.1
  have := h.2.2
  omega
theorem pst_len {s : ByteArray} (h : OkPath s) : ∀ k, k ≤ s.size → (pst s k).1.length + k = s.size / 2 + nU s k ∧ (pst s k).2.length ≤ k
  | 0, _ => by simp [pst, nU, idn_length]
  | k + 1, hk => by
    obtain ⟨ih, ih2⟩ := pst_len h k (by omega)
    have hst := h.1 k (by omega)
    obtain ⟨f1, f2, f3⟩ := ok_facts h
    have hm := nU_mono s (k + 1) (s.size - (k + 1))
    rw [show k + 1 + (s.size - (k + 1)) = s.size by omega] at hm
    have e1 := hs_nU s (k + 1)
    have e2 := nU_le s k
    rw [pst]
    split
    · rename_i hb
      have hu : nU s (k + 1) = nU s k := by rw [nU, hb]; simp
      have := hst.2
      simp only [List.length_append, List.length_take, List.length_drop, List.length_singleton]
      omega
    · rename_i hb
      have hb2 : bt s k = 85 := by
        rcases hst.1 with h1 | h1
        · exact h1
        · exact absurd h1 hb
      have hu : nU s (k + 1) = nU s k + 1 := by rw [nU, if_pos hb2]
      omega
/-- At a letter D there is a number to take. -/
theorem pst_at {s : ByteArray} (h : OkPath s) {k : Nat} (hk : k < s.size) (hb : bt s k = 68) : 0 ≤ hs s (k + 1) ∧ hs s (k + 1) < (pst s k).1.length ∧ (pst s k).1.length ≤ 8 := by
  obtain ⟨ih, _⟩ := pst_len h k (by omega)
  obtain ⟨f1, f2, f3⟩ := ok_facts h
  have hm := nU_mono s (k + 1) (s.size - (k + 1))
  rw [show k + 1 + (s.size - (k + 1)) = s.size by omega] at hm
  have e1 := hs_nU s (k + 1)
  have hst := h.1 k hk
  have hu : nU s (k + 1) = nU s k := by rw [nU, hb]; simp
  have := hst.2
  have := nU_le s k
  omega
open Classical in
noncomputable def PermOfPathV (s : ByteArray) : List Int := if OkPath s then (pst s s.size).2 else []
open Classical in
noncomputable def PermOfPathV1 (s : ByteArray) : Bool := decide (OkPath s)
theorem PermOfPathV_len (s : ByteArray) : (PermOfPathV s).length < 2^38 := by
  unfold PermOfPathV
  split
  · rename_i h
    have := (pst_len h s.size (Nat.le_refl _)).2
    have := h.2.2
    omega
  · simp
theorem c_identity {w : World} (n : Nat) (hn : n ≤ 8) :
    Calls PP F.impl_identity #[vI n] w fun e w' => ∃ s : Sl, e = .returned s.v ∧ OwnI w' w.heap.size s (idn n) ∧ Below w.heap.size w w' := by
  refine impl_identity.calls n ?_
  rw [impl_identity.E_s]
  refine lit0 oneInt (B := w.heap.size) (Nat.le_refl _) ?_
  intro t0 w1 hown hg _
  refine impl_identity.L3_rule _ _ _ _ _ (I := fun t k w' => 0 ≤ k ∧ k ≤ n ∧ OwnI w' w.heap.size t (idn k.toNat) ∧ Below w.heap.size w w') (μ := fun _ k _ => (n - k).toNat)
    ⟨by omega, by omega, hown, below_of_grow hg⟩ ?_
  rintro t k w' ⟨h1, hk, ht, hb⟩
  rw [impl_identity.B3_s]
  refine bif_dec (fun h3 => ?_) (fun h3 => ?_)
  · rw [w64_succ h1 (by omega)]
    refine append_int ht hb.size (by rw [idn_length]; omega) ?_
    intro t' w2 ht2 hg2 _
    refine ⟨t', k + 1, rfl, ⟨by omega, by omega, ?_, hb.grown hg2 hb.size (fun g hg => (ht.lt g hg).1)⟩, by omega⟩
    rw [show (k + 1).toNat = k.toNat + 1 by omega, idn_succ, show ((k.toNat : Nat) : Int) + 1 = k + 1 by omega]
    exact ht2
  · rw [impl_identity.A3_0_s]
    rw [show k.toNat = n by omega] at ht
    exact ⟨t, rfl, ht, hb⟩
theorem c_IdentityPermP {w : World} (n : Nat) (hn : n ≤ 8) :
    Calls PP F.spec_IdentityPerm #[vI n] w fun e w' => ∃ s : Sl, e = .returned s.v ∧ OwnI w' w.heap.size s (idn n) ∧ Below w.heap.size w w' := by
  refine spec_IdentityPerm.calls n ?_
  rw [spec_IdentityPerm.E_s]
  refine lit0 oneInt (B := w.heap.size) (Nat.le_refl _) ?_
  intro t0 w1 hown hg _
  refine spec_IdentityPerm.L3_rule _ _ _ _ _ (I := fun t k w' => 1 ≤ k ∧ k ≤ n + 1 ∧ OwnI w' w.heap.size t (idn (k - 1).toNat) ∧ Below w.heap.size w w') (μ := fun _ k _ => (n + 1 - k).toNat)
    ⟨by omega, by omega, hown, below_of_grow hg⟩ ?_
  rintro t k w' ⟨h1, hk, ht, hb⟩
  rw [spec_IdentityPerm.B3_s]
  refine bif_dec (fun h3 => ?_) (fun h3 => ?_)
  · refine bif_dec (fun h4 => ?_) (fun h4 => by omega)
    refine append_int ht hb.size (by rw [idn_length]; omega) ?_
    intro t' w2 ht2 hg2 _
    refine ⟨t', k + 1, by rw [w64_succ (by omega) (by omega)], ⟨by omega, by omega, ?_, hb.grown hg2 hb.size (fun g hg => (ht.lt g hg).1)⟩, by omega⟩
    rw [show (k + 1 - 1).toNat = (k - 1).toNat + 1 by omega, idn_succ, show (((k - 1).toNat : Nat) : Int) + 1 = k by omega]
    exact ht2
  · rw [spec_IdentityPerm.A3_0_s]
    rw [show (k - 1).toNat = n by omega] at ht
    exact ⟨t, rfl, ht, hb⟩
theorem half (s : ByteArray) (h : OkPath s) : w64 ((s.size : Int).tdiv 2) = ((s.size / 2 : Nat) : Int) := by
  have := h.2.2
  have e : (s.size : Int).tdiv 2 = (s.size : Int) / 2 := Int.tdiv_eq_ediv_of_nonneg (by omega)
  rw [e, w64_id] <;> omega

theorem c_implPermOfPath {w : World} (s : ByteArray) (hs0 : s.size < 2 ^ 38) :
    Calls PP F.impl_PermOfPath #[.string s] w fun e w' => ∃ t : Sl, e = .returned (.tuple #[t.v, .bool (PermOfPathV1 s)]) ∧ OwnI w' w.heap.size t (PermOfPathV s) ∧ Below w.heap.size w w' := by
  refine impl_PermOfPath.calls s ?_
  rw [impl_PermOfPath.E_s]
  refine (c_implHeights s (by omega) w).mono ?_
  rintro e w1 ⟨t, b, rfl, hb1, hiff, hrow⟩
  refine ⟨t, b, rfl, ?_⟩
  refine bif_intro (fun h => ?_) (fun h => ?_)
  · have hn : ¬ OkPath s := fun hh => by rw [hiff.2 hh] at h; cases h
    exact ⟨Sl.nil, by simp [PermOfPathV1, hn], by rw [PermOfPathV, if_neg hn]; exact Own.nil _ _ _, hb1⟩
  have hbt : b = true := by simpa using h
  have hok : OkPath s := hiff.1 hbt
  have hrow := hrow hbt
  obtain ⟨f1, f2, f3⟩ := ok_facts hok
  have hV : PermOfPathV s = (pst s s.size).2 := by rw [PermOfPathV, if_pos hok]
  have hV1 : PermOfPathV1 s = true := by simp [PermOfPathV1, hok]
  have h16 := hok.2.2
  refine ⟨by decide, ?_⟩
  rw [half s hok]
  refine (c_identity (s.size / 2) f3).mono ?_
  rintro e w2 ⟨l0, rfl, hl0, hb12⟩
  refine ⟨l0, rfl, ?_⟩
  refine lit0 oneInt (B := w1.heap.size) hb12.size ?_
  intro o0 w3 ho0 hg3 hc3
  have htn : t.n = s.size := by have := hrow.n; simpa [hsL_length] using this
  rw [htn]
  have hl3 : OwnI w3 w1.heap.size l0 (pst s 0).1 := hl0.kept hg3 (by simp)
  refine impl_PermOfPath.L7_rule _ _ _ _ _ _ _ _ (I := fun l o k w' => 0 ≤ k ∧ k ≤ s.size ∧ OwnI w' w1.heap.size l (pst s k.toNat).1 ∧ OwnI w' w1.heap.size o (pst s k.toNat).2 ∧ Apt o l ∧ Below w1.heap.size w1 w') (μ := fun _ _ k _ => (s.size - k).toNat)
    ⟨by omega, by omega, hl3, ho0, fun g hg => by simp [Sl.blk, hc3] at hg, hb12.grown hg3 hb12.size (by simp)⟩ ?_
  rintro l o k w' ⟨h0, hk, hl, ho, hap, hb⟩
  rw [impl_PermOfPath.B7_s]
  refine bif_dec (fun h3 => ?_) (fun h3 => ?_)
  · have hlt : k.toNat < s.size := by omega
    have hsc : (k + 1).toNat = k.toNat + 1 := by omega
    refine RowI.get (hrow.grow hb) h0 (by rw [hsL_length]; omega) ?_
    have e1 : (hsL s s.size).getD k.toNat 0 = hs s (k.toNat + 1) := by simp [hsL, List.getD_eq_getElem?_getD, hlt]
    rw [e1]
    refine strIdx_intro h0 (by omega) ?_
    refine bif_intro (fun h4 => ?_) (fun h4 => ?_)
    · have h4 : bt s k.toNat = 68 := by simpa using h4
      obtain ⟨g1, g2, g3⟩ := pst_at hok hlt h4
      have hln : l.n = (pst s k.toNat).1.length := by have := hl.n; simpa using this
      rw [hln, w64_id (n := ((pst s k.toNat).1.length : Int) - 1) (by omega) (by omega), w64_id (n := ((pst s k.toNat).1.length : Int) - 1 - hs s (k.toNat + 1)) (by omega) (by omega)]
      rw [w64_id (n := ((pst s k.toNat).1.length : Int) - 1 - hs s (k.toNat + 1) + 1) (by omega) (by omega)]
      have e2 : (((pst s k.toNat).1.length : Int) - 1 - hs s (k.toNat + 1)).toNat = (pst s k.toNat).1.length - 1 - (hs s (k.toNat + 1)).toNat := by omega
      refine RowI.get hl.row (by omega) (by omega) ?_
      have hol := (pst_len hok k.toNat (by omega)).2
      refine append_int ho hb.size (by omega) ?_
      intro o' w4 ho4 hg4 hn4
      have hb4 := hb.grown hg4 hb.size (fun g hg => (ho.lt g hg).1)
      have hl4 : OwnI w4 w1.heap.size l (pst s k.toNat).1 := hl.kept hg4 (fun g e1 e2 => hap g e2 e1)
      have hap4 : Apt o' l := hap.next hn4 (fun g hg => (hl.lt g hg).2)
      refine (c_Delete hl4 hb4.size (by omega) (i := ((pst s k.toNat).1.length : Int) - 1 - hs s (k.toNat + 1)) (by omega) (by omega)).mono ?_
      rintro e w5 ⟨l5, rfl, hl5, hg5, hn5⟩
      refine ⟨l5, rfl, ?_⟩
      refine ⟨l5, o', k + 1, by rw [w64_succ h0 (by omega)], ⟨by omega, by omega, ?_, ?_, (hap4.symm.next hn5 (fun g hg => (ho4.lt g hg).2)).symm, hb4.grown hg5 hb4.size (fun g hg => (hl4.lt g hg).1)⟩, by omega⟩
      · rw [hsc, pst, if_pos h4]
        rw [e2] at hl5
        exact hl5
      · rw [hsc, pst, if_pos h4]
        rw [e2] at ho4
        exact ho4.kept hg5 (fun g e1 e2 => hap4 g e1 e2)
    · have h4 : bt s k.toNat ≠ 68 := by simpa using h4
      refine ⟨l, o, k + 1, by rw [w64_succ h0 (by omega)], ⟨by omega, by omega, ?_, ?_, hap, hb⟩, by omega⟩
      · rw [hsc, pst, if_neg h4]; exact hl
      · rw [hsc, pst, if_neg h4]; exact ho
  · rw [impl_PermOfPath.A7_0_s]
    rw [show k.toNat = s.size by omega] at ho
    exact ⟨o, by rw [hV1], by rw [hV]; exact ho.mono hb1.size, hb1.trans (hb.mono hb1.size)⟩

theorem c_specPermOfPath {w : World} (s : ByteArray) (hs0 : s.size < 2 ^ 38) :
    Calls PP F.spec_PermOfPath #[.string s] w fun e w' => ∃ t : Sl, e = .returned (.tuple #[t.v, .bool (PermOfPathV1 s)]) ∧ RowI w' t (PermOfPathV s) ∧ Below w.heap.size w w' := by
  refine spec_PermOfPath.calls s ?_
  rw [spec_PermOfPath.E_s]
  obtain ⟨b, hiff, hp⟩ := c_specIsPath s (by omega)
  refine Pure.call1 (s := .bool) hp ?_
  refine bif_intro (fun h => ?_) (fun h => ?_)
  · have hn : ¬ OkPath s := fun hh => by rw [hiff.2 hh] at h; cases h
    refine lit0 oneInt (B := w.heap.size) (Nat.le_refl _) ?_
    intro t w1 ht hg _
    exact ⟨t, by simp [PermOfPathV1, hn], by rw [PermOfPathV, if_neg hn]; exact ht.row, below_of_grow hg⟩
  have hok : OkPath s := hiff.1 (by simpa using h)
  obtain ⟨f1, f2, f3⟩ := ok_facts hok
  have hV : PermOfPathV s = (pst s s.size).2 := by rw [PermOfPathV, if_pos hok]
  have hV1 : PermOfPathV1 s = true := by simp [PermOfPathV1, hok]
  have h16 := hok.2.2
  refine ⟨by decide, ?_⟩
  rw [half s hok]
  refine (c_IdentityPermP (s.size / 2) f3).mono ?_
  rintro e w2 ⟨l0, rfl, hl0, hb2⟩
  refine ⟨l0, rfl, ?_⟩
  refine lit0 oneInt (B := w.heap.size) hb2.size ?_
  intro o0 w3 ho0 hg3 hc3
  refine spec_PermOfPath.L7_rule _ _ _ _ _ _ _ (I := fun l o h k w' => 0 ≤ k ∧ k ≤ s.size ∧ h = hs s k.toNat ∧ OwnI w' w.heap.size l (pst s k.toNat).1 ∧ OwnI w' w.heap.size o (pst s k.toNat).2 ∧ Apt o l ∧ Below w.heap.size w w') (μ := fun _ _ _ k _ => (s.size - k).toNat)
    ⟨by omega, by omega, rfl, hl0.kept hg3 (by simp), ho0, fun g hg => by simp [Sl.blk, hc3] at hg, hb2.grown hg3 hb2.size (by simp)⟩ ?_
  rintro l o h k w' ⟨h0, hk, hh, hl, ho, hap, hb⟩
  have hbd := hs_bound s k.toNat
  rw [spec_PermOfPath.B7_s]
  refine bif_dec (fun h3 => ?_) (fun h3 => ?_)
  · have hlt : k.toNat < s.size := by omega
    have hsc : (k + 1).toNat = k.toNat + 1 := by omega
    have hst := hok.1 k.toNat hlt
    refine strIdx_intro h0 (by omega) ?_
    refine bif_intro (fun h4 => ?_) (fun h4 => ?_)
    · have h4 : bt s k.toNat = 85 := by simpa using h4
      have h5 : bt s k.toNat ≠ 68 := by rw [h4]; decide
      refine ⟨l, o, h + 1, k + 1, by rw [w64_succ h0 (by omega), w64_id (by omega) (by omega)], ⟨by omega, by omega, ?_, ?_, ?_, hap, hb⟩, by omega⟩
      · rw [hsc, hs, if_pos h4, hh]
      · rw [hsc, pst, if_neg h5]; exact hl
      · rw [hsc, pst, if_neg h5]; exact ho
    · have h4 : bt s k.toNat ≠ 85 := by simpa using h4
      have h5 : bt s k.toNat = 68 := by
        rcases hst.1 with h1 | h1
        · exact absurd h1 h4
        · exact h1
      have hh1 : h - 1 = hs s (k.toNat + 1) := by rw [hs, if_neg h4, hh]; omega
      obtain ⟨g1, g2, g3⟩ := pst_at hok hlt h5
      have hln : l.n = (pst s k.toNat).1.length := by have := hl.n; simpa using this
      rw [w64_id (n := h - 1) (by omega) (by omega), hh1]
      rw [hln, w64_id (n := ((pst s k.toNat).1.length : Int) - 1) (by omega) (by omega), w64_id (n := ((pst s k.toNat).1.length : Int) - 1 - hs s (k.toNat + 1)) (by omega) (by omega)]
      rw [w64_id (n := ((pst s k.toNat).1.length : Int) - 1 - hs s (k.toNat + 1) + 1) (by omega) (by omega)]
      have e2 : (((pst s k.toNat).1.length : Int) - 1 - hs s (k.toNat + 1)).toNat = (pst s k.toNat).1.length - 1 - (hs s (k.toNat + 1)).toNat := by omega
      refine RowI.get hl.row (by omega) (by omega) ?_
      have hol := (pst_len hok k.toNat (by omega)).2
      refine append_int ho hb.size (by omega) ?_
      intro o' w4 ho4 hg4 hn4
      refine drew_intro fun w5 hd5 => ?_
      have hb5 := (hb.grown hg4 hb.size (fun g hg => (ho.lt g hg).1)).trans (hd5.below _)
      have hl5 : OwnI w5 w.heap.size l (pst s k.toNat).1 := (hl.kept hg4 (fun g e1 e2 => hap g e2 e1)).heap hd5.heap'
      have ho5 := ho4.heap hd5.heap'
      refine Row.cut hl5.row (by simp) (by simp; omega) (by simp; omega) ?_
      intro s1 hs1
      refine Row.cut hl5.row (lo := some (((pst s k.toNat).1.length : Int) - 1 - hs s (k.toNat + 1) + 1)) (hi := none) (by simp; omega) (by simp; omega) (by simp; omega) ?_
      intro s2 hs2
      have q1 : (List.take ((some (((pst s k.toNat).1.length : Int) - 1 - hs s (k.toNat + 1))).getD (l.n : Int)).toNat ((pst s k.toNat).1.map vI)).drop ((none : Option Int).getD 0).toNat = ((pst s k.toNat).1.take ((pst s k.toNat).1.length - 1 - (hs s (k.toNat + 1)).toNat)).map vI := by
        simp only [Option.getD_none, Option.getD_some, Int.toNat_zero, List.drop_zero]
        rw [e2, List.map_take]
      have q2 : (List.take ((none : Option Int).getD (l.n : Int)).toNat ((pst s k.toNat).1.map vI)).drop ((some (((pst s k.toNat).1.length : Int) - 1 - hs s (k.toNat + 1) + 1)).getD 0).toNat = ((pst s k.toNat).1.drop ((pst s k.toNat).1.length - 1 - (hs s (k.toNat + 1)).toNat + 1)).map vI := by
        simp only [Option.getD_none, Option.getD_some, Int.toNat_natCast]
        rw [List.take_of_length_le (by simp; omega), List.map_drop]
        congr 1; omega
      rw [q1] at hs1
      rw [q2] at hs2
      refine lit0 oneInt (B := w5.heap.size) (Nat.le_refl _) ?_
      intro t1 w6 ht1 hg6 _
      have hb56 := below_of_grow hg6
      refine append_row oneInt ht1 hb56.size (hs1.grow hb56) (fun v hv => by obtain ⟨x, _, rfl⟩ := List.mem_map.1 hv; exact One.int x) (by simp; omega) ?_
      intro t2 w7 ht2 hg7 _ _
      have hb57 := hb56.grown hg7 hb56.size (fun g hg => (ht1.lt g hg).1)
      refine append_row oneInt ht2 hb57.size (hs2.grow hb57) (fun v hv => by obtain ⟨x, _, rfl⟩ := List.mem_map.1 hv; exact One.int x) (by simp; omega) ?_
      intro t3 w8 ht3 hg8 _ _
      have hb58 := hb57.grown hg8 hb57.size (fun g hg => (ht2.lt g hg).1)
      refine ⟨t3, o', hs s (k.toNat + 1), k + 1, by rw [w64_succ h0 (by omega)], ⟨by omega, by omega, by rw [hsc], ?_, ?_, ?_, hb5.trans (hb58.mono hb5.size)⟩, by omega⟩
      · rw [hsc, pst, if_pos h5]
        have ht3 : OwnI w8 w5.heap.size t3 ((pst s k.toNat).1.take ((pst s k.toNat).1.length - 1 - (hs s (k.toNat + 1)).toNat) ++ (pst s k.toNat).1.drop ((pst s k.toNat).1.length - 1 - (hs s (k.toNat + 1)).toNat + 1)) := by
          simpa [OwnI] using ht3
        exact ht3.mono hb5.size
      · rw [hsc, pst, if_pos h5]
        rw [e2] at ho5
        exact ho5.grow hb58
      · exact Apt.of_lt (fun g hg => (ho5.lt g hg).2) (fun g hg => (ht3.lt g hg).1)
  · rw [spec_PermOfPath.A7_0_s]
    rw [show k.toNat = s.size by omega] at ho
    exact ⟨o, by rw [hV1], by rw [hV]; exact ho.row, hb⟩
theorem lawC_FnExactPermOfPath (t0 : ByteArray) (ht0 : t0.size ≤ maxLen) (w : World) :
    Calls PP F.laws_FnExactPermOfPath #[.string t0] w fun e w' => e = .returned (.bool true) ∧ Below w.heap.size w w' := by
  refine laws_FnExactPermOfPath.calls t0 ?_
  rw [laws_FnExactPermOfPath.E_s]
  have b_0_0 : Below w.heap.size w w := Below.refl _ _
  refine bif_dec (fun h => ⟨rfl, b_0_0⟩) (fun h0s => ?_)
  have hs0 : t0.size < 2 ^ 38 := by omega
  refine (c_specPermOfPath t0 hs0).mono ?_
  rintro e w1 ⟨w0, rfl, hw0, s_0⟩
  refine ⟨w0, _, rfl, ?_⟩
  have b_0_1 := b_0_0.trans (s_0.mono b_0_0.size)
  have b_1_1 : Below w1.heap.size w1 w1 := Below.refl _ _
  refine (c_implPermOfPath t0 hs0).mono ?_
  rintro e w2 ⟨g0, rfl, hg0, s_1⟩
  refine ⟨g0, _, rfl, ?_⟩
  have b_0_2 := b_0_1.trans (s_1.mono b_0_1.size)
  have b_1_2 := b_1_1.trans (s_1.mono b_1_1.size)
  have b_2_2 : Below w2.heap.size w2 w2 := Below.refl _ _
  have hv0 : (PermOfPathV t0).length < 2^38 := PermOfPathV_len t0
  refine Quiet.call1 (s := .bool) (c_eqIntS (hg0.row.grow b_2_2) (hw0.grow b_1_2) (by omega)) ?_
  intro w3 hd3
  have s_2 : Below w2.heap.size w2 w3 := hd3.below _
  have b_0_3 := b_0_2.trans (s_2.mono b_0_2.size)
  have b_1_3 := b_1_2.trans (s_2.mono b_1_2.size)
  have b_2_3 := b_2_2.trans (s_2.mono b_2_2.size)
  refine bif_f (by simp) ?_
  refine bif_f (by simp) ?_
  have hg0p := hg0.grow b_2_3
  have b_3_3 : Below w3.heap.size w3 w3 := Below.refl _ _
  refine (c_markIntS hg0p (by omega) (k := 1) (by omega) (by omega)).mono ?_
  rintro e w4 ⟨rfl, hq0, hg_4, hz_4⟩
  have ks_4 := keeps_grown hg_4
  refine ⟨_, rfl, ?_⟩
  have lo_4 : ∀ g, g0.blk = some g → w1.heap.size ≤ g := (fun g e => (hg0p.lt g e).1)
  have b_0_4 := b_0_3.trans (ks_4.below (B := w.heap.size) (fun g e => Nat.le_trans b_0_1.size (lo_4 g e)) b_0_3.size)
  have b_1_4 := b_1_3.trans (ks_4.below (B := w1.heap.size) (fun g e => Nat.le_trans b_1_1.size (lo_4 g e)) b_1_3.size)
  have b_4_4 : Below w4.heap.size w4 w4 := Below.refl _ _
  refine Quiet.call1 (s := .int .i64) (c_heldIntS (n := (PermOfPathV t0).length) (hq0.row.grow b_4_4) (by omega) (by omega) (by omega)) ?_
  intro w5 hd5
  have s_4 : Below w4.heap.size w4 w5 := hd5.below _
  have b_0_5 := b_0_4.trans (s_4.mono b_0_4.size)
  have b_1_5 := b_1_4.trans (s_4.mono b_1_4.size)
  have b_4_5 := b_4_4.trans (s_4.mono b_4_4.size)
  refine bif_dec (fun h => by omega) (fun h => ?_)
  refine bif_f (by simp) ?_
  have b_5_5 : Below w5.heap.size w5 w5 := Below.refl _ _
  refine (c_implPermOfPath t0 hs0).mono ?_
  rintro e w6 ⟨h0, rfl, hh0, s_5⟩
  refine ⟨h0, _, rfl, ?_⟩
  have b_0_6 := b_0_5.trans (s_5.mono b_0_5.size)
  have b_1_6 := b_1_5.trans (s_5.mono b_1_5.size)
  have b_4_6 := b_4_5.trans (s_5.mono b_4_5.size)
  have b_5_6 := b_5_5.trans (s_5.mono b_5_5.size)
  have b_6_6 : Below w6.heap.size w6 w6 := Below.refl _ _
  refine Quiet.call1 (s := .bool) (c_eqIntS (hh0.row.grow b_6_6) (hw0.grow b_1_6) (by omega)) ?_
  intro w7 hd7
  have s_6 : Below w6.heap.size w6 w7 := hd7.below _
  have b_0_7 := b_0_6.trans (s_6.mono b_0_6.size)
  have b_1_7 := b_1_6.trans (s_6.mono b_1_6.size)
  have b_4_7 := b_4_6.trans (s_6.mono b_4_6.size)
  have b_5_7 := b_5_6.trans (s_6.mono b_5_6.size)
  have b_6_7 := b_6_6.trans (s_6.mono b_6_6.size)
  refine bif_f (by simp) ?_
  refine bif_f (by simp) ?_
  refine Quiet.call1 (s := .int .i64) (c_heldIntS (n := (PermOfPathV t0).length) (hq0.row.grow b_4_7) (by omega) (by omega) (by omega)) ?_
  intro w8 hd8
  have s_7 : Below w7.heap.size w7 w8 := hd8.below _
  have b_0_8 := b_0_7.trans (s_7.mono b_0_7.size)
  have b_1_8 := b_1_7.trans (s_7.mono b_1_7.size)
  have b_4_8 := b_4_7.trans (s_7.mono b_4_7.size)
  have b_5_8 := b_5_7.trans (s_7.mono b_5_7.size)
  have b_6_8 := b_6_7.trans (s_7.mono b_6_7.size)
  refine bif_dec (fun h => by omega) (fun h => ?_)
  refine bif_f (by simp) ?_
  exact ⟨rfl, b_0_8⟩
end Go.Proofs.Ytfainpmcdfckkaa
