/- The number of tableaux of a form: both texts reckon the same products; and the law. -/
import Derived.Test.YtfainpmcdfckkaaForm
namespace Go.Proofs.Ytfainpmcdfckkaa
open Go Go.RowKit
set_option maxRecDepth 100000

def facP : Nat → Int
  | 0 => 1
  | k + 1 => w64 (facP k * ((k : Int) + 1))
/-- The hook's length, the rows behind r up to the j-th counted. -/
def hookL (L : List Int) (r : Nat) (c : Int) : Nat → Int
  | 0 => L.getD r 0 - c
  | j + 1 => hookL L r c j + (if c < L.getD (r + 1 + j) 0 then 1 else 0)
def rowP (L : List Int) (r : Nat) (b : Int) : Nat → Int
  | 0 => b
  | c + 1 => w64 (rowP L r b c * hookL L r c (L.length - (r + 1)))
def botP (L : List Int) : Nat → Int
  | 0 => 1
  | r + 1 => rowP L r (botP L r) (L.getD r 0).toNat
theorem hk_bound (L : List Int) (r : Nat) (c : Int) (j : Nat) : L.getD r 0 - c ≤ hookL L r c j ∧ hookL L r c j ≤ L.getD r 0 - c + j := by
  induction j with
  | zero => simp [hookL]
  | succ j ih => simp only [hookL]; split <;> omega
theorem pow24 {k : Nat} (h : k ≤ 12) : (24 : Int) ^ k ≤ 36520347436056576 := by
  have : ∀ k, k ≤ 12 → (24 : Int) ^ k ≤ 36520347436056576 := by decide
  exact this k h
theorem step24 {b h : Int} {k : Nat} (hk : k + 1 ≤ 12) (h0 : 1 ≤ b) (h1 : b ≤ 24 ^ k) (h2 : 1 ≤ h) (h3 : h ≤ 24) : 1 ≤ w64 (b * h) ∧ w64 (b * h) ≤ 24 ^ (k + 1) := by
  have e1 : b * h ≤ 24 ^ k * 24 := Int.mul_le_mul h1 h3 (by omega) (by omega)
  have e2 : 1 * 1 ≤ b * h := Int.mul_le_mul h0 h2 (by omega) (by omega)
  rw [← Int.pow_succ] at e1
  have := pow24 hk
  rw [w64_id (by omega) (by omega)]
  omega
theorem FormOk.pos {L : List Int} {m : Int} (h : FormOk L m) : ∀ j, j < L.length → 1 ≤ L.getD j 0 := fun j hj => (h j hj).1
theorem FormOk.len {L : List Int} {m : Int} (h : FormOk L m) (hm : 0 ≤ m) : (L.length : Int) ≤ sm L L.length ∧ sm L L.length ≤ m := by
  refine ⟨sm_ge h.pos, ?_⟩
  rcases Nat.eq_zero_or_pos L.length with h1 | h1
  · rw [h1]; exact hm
  · have h2 := (h (L.length - 1) (by omega)).2.1
    have : L.length = (L.length - 1) + 1 := by omega
    rw [this]; exact h2
theorem rowP_bound {L : List Int} (h : FormOk L 12) {r : Nat} (hr : r < L.length) {b : Int} {s : Nat} (hb : 1 ≤ b ∧ b ≤ 24 ^ s) (hs : s = (sm L r).toNat) :
    ∀ c : Nat, (c : Int) ≤ L.getD r 0 → 1 ≤ rowP L r b c ∧ rowP L r b c ≤ 24 ^ (s + c)
  | 0, _ => hb
  | c + 1, hc => by
    have ih := rowP_bound h hr hb hs c (by omega)
    have h1 := hk_bound L r c (L.length - (r + 1))
    have h2 := (h r hr).2.1
    have h3 := h.len (by omega)
    have h4 := sm_ge (L := L) (k := r) (fun j hj => h.pos j (by omega))
    have := step24 (k := s + c) (by omega) ih.1 ih.2 (h := hookL L r c (L.length - (r + 1))) (by omega) (by omega)
    simpa [rowP, Nat.add_assoc] using this
theorem botP_bound {L : List Int} (h : FormOk L 12) : ∀ r : Nat, r ≤ L.length → 1 ≤ botP L r ∧ botP L r ≤ 24 ^ (sm L r).toNat
  | 0, _ => by simp [botP, sm]
  | r + 1, hr => by
    have ih := botP_bound h r (by omega)
    have h1 := h.pos r (by omega)
    have h4 := sm_ge (L := L) (k := r) (fun j hj => h.pos j (by omega))
    have := rowP_bound h (by omega) ih rfl (L.getD r 0).toNat (by omega)
    have e : (sm L (r + 1)).toNat = (sm L r).toNat + (L.getD r 0).toNat := by simp only [sm]; omega
    rw [e]; exact this
open Classical in
noncomputable def ctV (L : List Int) : Int := if FormOk L 12 then w64 ((facP (sm L L.length).toNat).tdiv (botP L L.length)) else 0

theorem c_total {w : World} {a : Sl} {L : List Int} (ha : RowI w a L) (hf : FormOk L 12) : Quiet F.impl_total #[a.v] w (vI (sm L L.length)) := by
  intro w1 hd
  have han : a.n = L.length := by have := ha.n; simpa using this
  have hlen := hf.len (by omega)
  refine impl_total.calls a ?_
  rw [impl_total.E_s]
  refine impl_total.L3_rule _ _ _ _ _ _ (I := fun s k w' => w' = w1 ∧ 0 ≤ k ∧ k ≤ L.length ∧ s = sm L k.toNat) (μ := fun _ k _ => (L.length - k).toNat) ⟨rfl, by omega, by omega, rfl⟩ ?_
  rintro s k w' ⟨rfl, h0, hk, hs⟩
  rw [impl_total.B3_s]
  refine bif_dec (fun h3 => ?_) (fun h3 => ?_)
  · refine RowI.get (ha.heap hd.heap') h0 (by omega) ?_
    have h1 := sm_ge (L := L) (k := k.toNat) (fun j hj => hf.pos j (by omega))
    have h2 := hf k.toNat (by omega)
    have h4 := h2.1
    have h5 := h2.2.1
    refine ⟨sm L (k.toNat + 1), k + 1, ?_, ⟨rfl, by omega, by omega, by rw [show (k + 1).toNat = k.toNat + 1 by omega]⟩, by omega⟩
    rw [w64_succ h0 (by omega), w64_id (by omega) (by omega), hs]; rfl
  · rw [impl_total.A3_0_s]
    have e : k.toNat = L.length := by omega
    rw [e] at hs
    exact ⟨by rw [hs], Drew.refl _⟩

theorem c_implCountTableaux {w : World} {a : Sl} {L : List Int} (ha : RowI w a L) (hL : L.length < 2^39) (hbd : ∀ x ∈ L, -9223372036854775808 ≤ x ∧ x ≤ 9223372036854775807) :
    Quiet F.impl_CountTableaux #[a.v] w (vI (ctV L)) := by
  classical
  intro w1 hd
  have han : a.n = L.length := by have := ha.n; simpa using this
  refine impl_CountTableaux.calls a ?_
  rw [impl_CountTableaux.E_s]
  refine Quiet.call1 (s := .bool) (c_isForm (ha.heap hd.heap') hL hbd (by omega) (by omega)) ?_
  intro w2 hd2
  refine bif_intro (fun h => ?_) (fun h => ?_)
  · have h : ¬ FormOk L 12 := by simpa using h
    exact ⟨by rw [ctV, if_neg h], hd2⟩
  have hf : FormOk L 12 := by simpa using h
  have hlen := hf.len (by omega)
  refine Quiet.call1 (s := .int .i64) (c_total (ha.heap (hd.trans hd2).heap') hf) ?_
  intro w3 hd3
  have hd13 := hd2.trans hd3
  have ha3 : RowI w3 a L := ha.heap (hd.trans hd13).heap'
  refine impl_CountTableaux.L5_rule _ _ _ _ _ _ _ (I := fun ab k w' => w' = w3 ∧ 0 ≤ k ∧ k ≤ sm L L.length ∧ ab = facP k.toNat) (μ := fun _ k _ => (sm L L.length - k).toNat) ⟨rfl, by omega, by omega, rfl⟩ ?_
  rintro ab k w' ⟨rfl, h0, hk, hab⟩
  rw [impl_CountTableaux.B5_s]
  refine bif_dec (fun h3 => ?_) (fun h3 => ?_)
  · refine ⟨facP (k.toNat + 1), k + 1, ?_, ⟨rfl, by omega, by omega, by rw [show (k + 1).toNat = k.toNat + 1 by omega]⟩, by omega⟩
    rw [w64_succ h0 (by omega), facP, hab, Int.toNat_of_nonneg h0]
  rw [impl_CountTableaux.A5_0_s]
  have ek : k.toNat = (sm L L.length).toNat := by omega
  rw [ek] at hab
  refine impl_CountTableaux.L10_rule _ _ _ _ _ _ _ _ (I := fun be r w2 => w2 = w' ∧ 0 ≤ r ∧ r ≤ L.length ∧ be = botP L r.toNat) (μ := fun _ r _ => (L.length - r).toNat) ⟨rfl, by omega, by omega, rfl⟩ ?_
  rintro be r w2 ⟨rfl, hr0, hr, hbe⟩
  rw [impl_CountTableaux.B10_s]
  refine bif_dec (fun h4 => ?_) (fun h4 => ?_)
  · have hrl : r.toNat < L.length := by omega
    have hpos := hf.pos _ hrl
    have hle := (hf _ hrl).2.1
    have hge := sm_ge (L := L) (k := r.toNat) (fun j hj => hf.pos j (by omega))
    refine RowI.get ha3 hr0 (by omega) ?_
    refine impl_CountTableaux.L13_rule _ _ _ _ _ _ _ _ _ _ _ _ (I := fun be c w4 => w4 = w2 ∧ 0 ≤ c ∧ c ≤ L.getD r.toNat 0 ∧ be = rowP L r.toNat (botP L r.toNat) c.toNat) (μ := fun _ c _ => (L.getD r.toNat 0 - c).toNat) ⟨rfl, by omega, by omega, hbe⟩ ?_
    rintro be c w4 ⟨rfl, hc0, hc, hbe2⟩
    rw [impl_CountTableaux.B13_s]
    refine bif_dec (fun h5 => ?_) (fun h5 => ?_)
    · rw [w64_succ hr0 (by omega)]
      refine Row.cut ha3 (by simp; omega) (by simp; omega) (by simp; omega) ?_
      intro t ht
      have ht : RowI w4 t (L.drop (r.toNat + 1)) := by
        have e1 : (some (r + 1)).getD 0 = r + 1 := rfl
        have e2 : (none : Option Int).getD (a.n : Int) = a.n := rfl
        rw [e1, e2, han] at ht
        rw [show (r + 1).toNat = r.toNat + 1 by omega] at ht
        simpa [RowI, List.take_of_length_le] using ht
      have htn : t.n = L.length - (r.toNat + 1) := by have := ht.n; simpa using this
      refine impl_CountTableaux.L17_rule _ _ _ _ _ _ _ _ _ _ _ _ _ _ _ _ _ (I := fun h j w5 => w5 = w4 ∧ 0 ≤ j ∧ j ≤ L.length - (r.toNat + 1) ∧ h = hookL L r.toNat c j.toNat) (μ := fun _ j _ => (L.length - (r.toNat + 1) - j).toNat)
        ⟨rfl, by omega, by omega, by rw [w64_id (by omega) (by omega)]; rfl⟩ ?_
      rintro h j w5 ⟨rfl, hj0, hj, hh⟩
      have hkb := hk_bound L r.toNat c j.toNat
      rw [impl_CountTableaux.B17_s]
      refine bif_dec (fun h6 => ?_) (fun h6 => ?_)
      · refine RowI.get ht hj0 (by simp; omega) ?_
        have eg : (L.drop (r.toNat + 1)).getD j.toNat 0 = L.getD (r.toNat + 1 + j.toNat) 0 := by simp [List.getD_eq_getElem?_getD, List.getElem?_drop]
        rw [eg]
        have es : (j + 1).toNat = j.toNat + 1 := by omega
        refine bif_dec (fun h7 => ?_) (fun h7 => ?_)
        · refine ⟨h + 1, j + 1, by rw [w64_succ hj0 (by omega), w64_id (n := h + 1) (by omega) (by omega)], ⟨rfl, by omega, by omega, ?_⟩, by omega⟩
          rw [es, hookL, if_pos h7, hh]
        · refine ⟨h, j + 1, by rw [w64_succ hj0 (by omega)], ⟨rfl, by omega, by omega, ?_⟩, by omega⟩
          rw [es, hookL, if_neg h7, hh]; omega
      · rw [impl_CountTableaux.A17_6_s]
        have ej : j.toNat = L.length - (r.toNat + 1) := by omega
        rw [ej] at hh
        refine ⟨_, c + 1, by rw [w64_succ hc0 (by omega)], ⟨rfl, by omega, by omega, ?_⟩, by omega⟩
        rw [show (c + 1).toNat = c.toNat + 1 by omega, rowP, ← hbe2, hh, Int.toNat_of_nonneg hc0]
    · rw [impl_CountTableaux.A13_4_s]
      have ec : c.toNat = (L.getD r.toNat 0).toNat := by omega
      rw [ec] at hbe2
      refine ⟨_, r + 1, by rw [w64_succ hr0 (by omega)], ⟨rfl, by omega, by omega, ?_⟩, by omega⟩
      rw [show (r + 1).toNat = r.toNat + 1 by omega, botP, hbe2]
  · rw [impl_CountTableaux.A10_2_s]
    have er : r.toNat = L.length := by omega
    rw [er] at hbe
    have hnz := (botP_bound hf L.length (Nat.le_refl _)).1
    refine ⟨by rw [hbe]; omega, ?_, hd13⟩
    rw [ctV, if_pos hf, hab, hbe]

theorem c_specCountTableaux {w : World} {a : Sl} {L : List Int} (ha : RowI w a L) (hL : L.length < 2^39) :
    Quiet F.spec_CountTableaux #[a.v] w (vI (ctV L)) := by
  classical
  intro w1 hd
  have han : a.n = L.length := by have := ha.n; simpa using this
  refine spec_CountTableaux.calls a ?_
  rw [spec_CountTableaux.E_s]
  refine Quiet.call1 (s := .bool) (c_l19Form (ha.heap hd.heap') hL (by omega) (by omega)) ?_
  intro w2 hd2
  refine bif_intro (fun h => ?_) (fun h => ?_)
  · have h : ¬ FormOk L 12 := by simpa using h
    exact ⟨by rw [ctV, if_neg h], hd2⟩
  have hf : FormOk L 12 := by simpa using h
  have hlen := hf.len (by omega)
  have ha3 : RowI w2 a L := ha.heap (hd.trans hd2).heap'
  refine spec_CountTableaux.L7_rule _ _ _ _ _ _ _ (I := fun top be n r w' => w' = w2 ∧ 0 ≤ r ∧ r ≤ L.length ∧ n = sm L r.toNat ∧ top = facP n.toNat ∧ be = botP L r.toNat) (μ := fun _ _ _ r _ => (L.length - r).toNat) ⟨rfl, by omega, by omega, rfl, rfl, rfl⟩ ?_
  rintro top be n r w' ⟨rfl, hr0, hr, hn, htop, hbe⟩
  rw [spec_CountTableaux.B7_s]
  refine bif_dec (fun h4 => ?_) (fun h4 => ?_)
  · have hrl : r.toNat < L.length := by omega
    have hpos := hf.pos _ hrl
    have hle := (hf _ hrl).2.1
    have hge := sm_ge (L := L) (k := r.toNat) (fun j hj => hf.pos j (by omega))
    refine spec_CountTableaux.L10_rule _ _ _ _ _ _ _ _ (I := fun top be n c w4 => w4 = w' ∧ 0 ≤ c ∧ c ≤ L.getD r.toNat 0 ∧ n = sm L r.toNat + c ∧ top = facP n.toNat ∧ be = rowP L r.toNat (botP L r.toNat) c.toNat) (μ := fun _ _ _ c _ => (L.getD r.toNat 0 - c).toNat)
      ⟨rfl, by omega, by omega, by omega, htop, hbe⟩ ?_
    rintro top be n c w4 ⟨rfl, hc0, hc, hn2, htop2, hbe2⟩
    rw [spec_CountTableaux.B10_s]
    refine RowI.get ha3 hr0 (by omega) ?_
    refine bif_dec (fun h5 => ?_) (fun h5 => ?_)
    · refine RowI.get ha3 hr0 (by omega) ?_
      have en : w64 (n + 1) = n + 1 := w64_succ (by omega) (by omega)
      have et : w64 (top * (n + 1)) = facP (n + 1).toNat := by
        rw [show (n + 1).toNat = n.toNat + 1 by omega, facP, htop2, Int.toNat_of_nonneg (by omega)]
      rw [en, et, w64_succ hr0 (by omega)]
      refine spec_CountTableaux.L16_rule _ _ _ _ _ _ _ _ _ _ (I := fun h i w5 => w5 = w4 ∧ r + 1 ≤ i ∧ i ≤ L.length ∧ h = hookL L r.toNat c (i - (r + 1)).toNat) (μ := fun _ i _ => (L.length - i).toNat)
        ⟨rfl, by omega, by omega, by rw [w64_id (by omega) (by omega), show (r + 1 - (r + 1)).toNat = 0 by omega]; rfl⟩ ?_
      rintro h i w5 ⟨rfl, hi0, hi, hh⟩
      have hkb := hk_bound L r.toNat c (i - (r + 1)).toNat
      rw [spec_CountTableaux.B16_s]
      refine bif_dec (fun h6 => ?_) (fun h6 => ?_)
      · refine RowI.get ha3 (by omega) (by omega) ?_
        refine Pure.pcall1 (s := .int .i64) (c_l1Bit _) ?_
        have es : (i + 1 - (r + 1)).toNat = (i - (r + 1)).toNat + 1 := by omega
        have ei : r.toNat + 1 + (i - (r + 1)).toNat = i.toNat := by omega
        have hkb2 := hk_bound L r.toNat c ((i - (r + 1)).toNat + 1)
        refine ⟨hookL L r.toNat c ((i - (r + 1)).toNat + 1), i + 1, ?_, ⟨rfl, by omega, by omega, by rw [es]⟩, by omega⟩
        rw [w64_succ (by omega) (by omega)]
        congr 1
        have e9 : h + (if decide (L.getD i.toNat 0 > c) = true then 1 else 0) = hookL L r.toNat c ((i - (r + 1)).toNat + 1) := by
          rw [hookL, ei, hh]; simp
        rw [e9, w64_id (by omega) (by omega)]
      · rw [spec_CountTableaux.A16_4_s]
        have ej : (i - (r + 1)).toNat = L.length - (r.toNat + 1) := by omega
        rw [ej] at hh
        refine ⟨_, _, n + 1, c + 1, by rw [w64_succ hc0 (by omega)], ⟨rfl, by omega, by omega, by omega, rfl, ?_⟩, by omega⟩
        rw [show (c + 1).toNat = c.toNat + 1 by omega, rowP, ← hbe2, hh, Int.toNat_of_nonneg hc0]
    · rw [spec_CountTableaux.A10_2_s]
      have ec : c.toNat = (L.getD r.toNat 0).toNat := by omega
      rw [ec] at hbe2
      refine ⟨top, be, n, r + 1, by rw [w64_succ hr0 (by omega)], ⟨rfl, by omega, by omega, ?_, htop2, ?_⟩, by omega⟩
      · rw [show (r + 1).toNat = r.toNat + 1 by omega, sm]; omega
      · rw [show (r + 1).toNat = r.toNat + 1 by omega, botP, hbe2]
  · rw [spec_CountTableaux.A7_0_s]
    have er : r.toNat = L.length := by omega
    rw [er] at hbe hn
    have hnz := (botP_bound hf L.length (Nat.le_refl _)).1
    refine ⟨by rw [hbe]; omega, ?_, hd2⟩
    rw [ctV, if_pos hf, htop, hbe, hn]

theorem lawC_FnExactCountTableaux (a : Sl) (L : List Int) (w : World) (ha : RowI w a L) (hbd : ∀ x ∈ L, -9223372036854775808 ≤ x ∧ x ≤ 9223372036854775807) :
    Calls PP F.laws_FnExactCountTableaux #[a.v] w fun e w' => e = .returned (.bool true) ∧ Below w.heap.size w w' := by
  have han : a.n = L.length := by have := ha.n; simpa using this
  refine laws_FnExactCountTableaux.calls a ?_
  rw [laws_FnExactCountTableaux.E_s]
  refine bif_dec (fun h => ⟨rfl, Below.refl _ _⟩) (fun h => ?_)
  have hL : L.length < 2 ^ 39 := by omega
  refine (c_toIntS ha hL).mono ?_
  rintro e w1 ⟨s1, rfl, ho1, hb1⟩
  refine ⟨s1, rfl, ?_⟩
  refine Quiet.call1 (s := .int .i64) (c_specCountTableaux ho1.row hL) ?_
  intro w2 hd2
  have hb2 : Below w.heap.size w w2 := hb1.trans (hd2.below _)
  refine (c_toIntS (ha.grow hb2) hL).mono ?_
  rintro e w3 ⟨s3, rfl, ho3, hb3⟩
  refine ⟨s3, rfl, ?_⟩
  refine Quiet.call1 (s := .int .i64) (c_implCountTableaux ho3.row hL hbd) ?_
  intro w4 hd4
  have hb4 : Below w.heap.size w w4 := (hb2.trans (hb3.mono hb2.size)).trans (hd4.below _)
  refine bif_f (by simp) ?_
  refine (c_toIntS (ha.grow hb4) hL).mono ?_
  rintro e w5 ⟨s5, rfl, ho5, hb5⟩
  refine ⟨s5, rfl, ?_⟩
  have hr3 : RowI w5 s3 L := (Row.heap ho3.row hd4.heap').grow hb5
  refine Quiet.call1 (s := .bool) (c_eqIntS hr3 ho5.row hL) ?_
  intro w6 hd6
  refine bif_f (by simp) ?_
  exact ⟨rfl, (hb4.trans (hb5.mono hb4.size)).trans (hd6.below _)⟩
end Go.Proofs.Ytfainpmcdfckkaa
