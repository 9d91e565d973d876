/- CountLongestUp and FirstLongestUp: the counts, both texts, and the laws. -/
import Derived.Test.YtliabbhfagfagaaCodeE
import Derived.Test.YtliabbhfagfagaaUpMath
import Derived.Test.YtliabbhfagfagaaFind
import Derived.Test.YtliabbhfagfagaaRise
import Derived.Test.YtliabbhfagfagaaLaw2
namespace Go.Proofs.Ytliabbhfagfagaa
open Go Go.RowKit
set_option maxRecDepth 100000

theorem cn_none {L : List Int} {k m : Nat} {x : Int} (hk : k < L.length) (h : Most (Fr L k) x) (hm : x ≤ m) : cn L k m = 0 := by
  apply Classical.byContradiction
  intro hne
  obtain ⟨p, rfl, hf, hmax⟩ := h
  have := hmax _ ((cn_Fr m hk).1 (by omega))
  omega
theorem sumUp_none {L : List Int} {v : Int} {i m : Nat} : ∀ {c}, (∀ k, i ≤ k → k < i + c → v < L.getD k 0 → cn L k m = 0) → sumUp L v i m c = 0
  | 0, _ => rfl
  | c + 1, h => by
    rw [sumUp, sumUp_none (fun k h1 h2 h3 => h k h1 (by omega) h3)]
    split
    · rename_i h4; rw [h (i + c) (by omega) (by omega) h4]
    · rfl
theorem sumUp_le {L : List Int} {v : Int} {i m : Nat} : ∀ {c}, i + c ≤ L.length → sumUp L v i m c ≤ c * 2 ^ L.length
  | 0, _ => by simp [sumUp]
  | c + 1, h => by
    rw [sumUp, Nat.succ_mul]
    have h1 := sumUp_le (L := L) (v := v) (i := i) (m := m) (c := c) (by omega)
    have h2 := cn_bound (P := L) m (i := i + c) (by omega)
    have h3 : 2 ^ (L.length - 1 - (i + c)) ≤ 2 ^ L.length := Nat.pow_le_pow_right (by omega) (by omega)
    split <;> omega
theorem inn_count {L : List Int} (hp : ∀ i j, i < j → j < L.length → L.getD i 0 ≠ L.getD j 0) (h8 : L.length ≤ 8) {val : Nat → Int × Int} {i : Nat} (hi : i < L.length)
    (hv : ∀ k, i < k → k < L.length → Most (Fr L k) (val k).1) (hc : ∀ k, i < k → k < L.length → (val k).2 = cn L k ((val k).1.toNat - 1)) : ∀ c, i + c < L.length →
    (inn L val i c).2 = if (inn L val i c).1 = 1 then 1 else (sumUp L (L.getD i 0) (i + 1) ((inn L val i c).1.toNat - 2) c : Int)
  | 0, _ => by simp [inn]
  | c + 1, hlt => by
    have ih := inn_count hp h8 hi hv hc c (by omega)
    obtain ⟨h1, h2, h3, h4⟩ := inn_spec hp hi (by omega) hv c (by omega)
    have hmk := hv (i + 1 + c) (by omega) (by omega)
    have hck := hc (i + 1 + c) (by omega) (by omega)
    obtain ⟨m, hm, hf, hmax⟩ := id hmk
    have hle := hf.le
    have hpos := hf.pos
    have hw : w64 ((val (i + 1 + c)).1 + 1) = (val (i + 1 + c)).1 + 1 := w64_id (by omega) (by omega)
    have hne := hp i (i + 1 + c) (by omega) (by omega)
    rw [inn, hw]
    split
    · rename_i hs
      rw [ih]
      split
      · rfl
      · rename_i hl
        rw [sumUp]
        congr 1
        split
        · rename_i hgt
          rw [cn_none (by omega) hmk (by omega)]; rfl
        · rfl
    · rename_i hs
      have hgt : L.getD i 0 < L.getD (i + 1 + c) 0 := by omega
      split
      · rename_i hs2
        simp only
        rw [if_neg (by omega), sumUp, if_pos hgt, sumUp_none (fun k a b d => cn_none (by omega) (hv k (by omega) (by omega)) (by have := h4 k (by omega) (by omega) d; omega)), hck]
        rw [show ((val (i + 1 + c)).1 + 1).toNat - 2 = (val (i + 1 + c)).1.toNat - 1 by omega]
        omega
      · rename_i hs2
        simp only
        rw [if_neg (by omega), sumUp, if_pos hgt, ih, if_neg (by omega), hck]
        rw [show (inn L val i c).1.toNat - 2 = (val (i + 1 + c)).1.toNat - 1 by omega]
        have b1 := sumUp_le (L := L) (v := L.getD i 0) (i := i + 1) (m := (val (i + 1 + c)).1.toNat - 1) (c := c) (by omega)
        have b2 := cn_bound (P := L) ((val (i + 1 + c)).1.toNat - 1) (i := i + 1 + c) (by omega)
        have b3 : 2 ^ (L.length - 1 - (i + 1 + c)) ≤ 2 ^ 8 := Nat.pow_le_pow_right (by omega) (by omega)
        have b4 : 2 ^ L.length ≤ 2 ^ 8 := Nat.pow_le_pow_right (by omega) h8
        have b5 : c * 2 ^ L.length ≤ 8 * 2 ^ 8 := Nat.mul_le_mul (by omega) b4
        rw [w64_id (by omega) (by omega)]
        omega
theorem gl_count {L : List Int} (hp : ∀ i j, i < j → j < L.length → L.getD i 0 ≠ L.getD j 0) (h8 : L.length ≤ 8) : ∀ d, d ≤ L.length → ∀ j, L.length ≤ j + d → j < L.length → (gl L d j).2 = cn L j ((gl L d j).1.toNat - 1)
  | 0, _, j, h1, h2 => by omega
  | d + 1, hd, j, h1, h2 => by
    rw [gl]
    split
    · rename_i hj
      have hspec := fun k (hk1 : j < k) (hk2 : k < L.length) => gl_spec hp (by omega) d (by omega) k (by omega) hk2
      obtain ⟨a1, a2, a3, a4⟩ := inn_spec hp h2 (by omega) (val := gl L d) hspec d (by omega)
      rw [inn_count hp h8 h2 hspec (fun k hk1 hk2 => gl_count hp h8 d (by omega) k (by omega) hk2) d (by omega)]
      split
      · rename_i h; rw [h]; rfl
      · rename_i h
        have : (inn L (gl L d) j d).1.toNat - 1 = ((inn L (gl L d) j d).1.toNat - 2) + 1 := by omega
        rw [this, cn_succ L _ h2, show L.length - 1 - j = d by omega]
    · exact gl_count hp h8 d (by omega) j (by omega) h2
theorem luV_gl {L : List Int} (hp : ∀ i j, i < j → j < L.length → L.getD i 0 ≠ L.getD j 0) (hL : L.length < 2^38) : luV L = mx (fun j => (gl L L.length j).1) L.length := by
  rw [luV, lis_eq (L := L) (fun i hi => gl_spec hp hL L.length (Nat.le_refl _) i (by omega) hi) (fun k hk => enT_spec hL L.length (Nat.le_refl _) k hk)]
/-- What the lengths and numbers of a permutation are. -/
theorem lu_facts {L : List Int} (h : IsP L) : 0 ≤ luV L ∧ luV L ≤ L.length ∧ (∀ i, i < L.length → Most (Fr L i) (gl L L.length i).1 ∧ (gl L L.length i).1 ≤ luV L ∧ (gl L L.length i).2 = cn L i ((gl L L.length i).1.toNat - 1)) ∧ (0 < L.length → 1 ≤ luV L) := by
  have h8 := h.1
  have hsp := fun i (hi : i < L.length) => gl_spec h.2.ne (by omega) L.length (Nat.le_refl _) i (by omega) hi
  have hle := fun i (hi : i < L.length) => (show (gl L L.length i).1 ≤ luV L by rw [luV_gl h.2.ne (by omega)]; exact mx_ge (f := fun j => (gl L L.length j).1) hi)
  have hup : luV L ≤ L.length := by
    rw [luV_gl h.2.ne (by omega)]
    rcases mx_mem (f := fun j => (gl L L.length j).1) (n := L.length) with h1 | ⟨k, hk, h1⟩
    · omega
    · obtain ⟨m, hm, hf, _⟩ := hsp k hk
      have := hf.le
      omega
  refine ⟨by rw [luV_gl h.2.ne (by omega)]; exact mx_nonneg, hup, fun i hi => ⟨hsp i hi, hle i hi, gl_count h.2.ne h8 L.length (Nat.le_refl _) i (by omega) hi⟩, fun h0 => ?_⟩
  obtain ⟨m, hm, hf, _⟩ := hsp 0 h0
  have := hf.pos
  have := hle 0 h0
  omega
theorem isP_pos {L : List Int} (h : IsP L) : ∀ x : Int, 1 ≤ x → x ≤ L.length → 0 < L.getD (x - 1).toNat 0 := fun x h1 h2 => by
  have := (h.2 (x - 1).toNat (by omega)).1; omega
open Classical in
noncomputable def CountLongestUpV (L : List Int) : Int := if IsP L then ((upN L (luV L).toNat 0 0).length : Int) else -1
theorem c_specCountLongestUp {w : World} {a : Sl} {L : List Int} (ha : RowI w a L) (hL : L.length < 2^38) :
    Calls PP F.spec_CountLongestUp #[a.v] w fun e w' => e = .returned (vI (CountLongestUpV L)) ∧ Below w.heap.size w w' := by
  refine spec_CountLongestUp.calls a ?_
  rw [spec_CountLongestUp.E_s]
  refine Quiet.call1 (s := .bool) (c_specIsPerm ha hL) ?_
  intro w1 hd
  have hb1 : Below w.heap.size w w1 := hd.below _
  refine bif_intro (fun h => ?_) (fun h => ?_)
  · have h : ¬ IsP L := by simpa using h
    exact ⟨by rw [CountLongestUpV, if_neg h], hb1⟩
  have h : IsP L := by simpa using h
  obtain ⟨hl0, hln, hf, _⟩ := lu_facts h
  have h8 := h.1
  refine (c_l20Up (ha.grow hb1) hL).mono ?_
  rintro e w2 ⟨rfl, hb12⟩
  refine ⟨_, rfl, ?_⟩
  have hb2 := hb1.trans (hb12.mono hb1.size)
  obtain ⟨K, hK⟩ : ∃ K : Nat, luV L = K := ⟨(luV L).toNat, by omega⟩
  rw [hK]
  refine (c_IdentityPerm K (by omega)).mono ?_
  rintro e w3 ⟨q, rfl, hq, hb23⟩
  refine ⟨q, rfl, ?_⟩
  have hb3 := hb2.trans (hb23.mono hb2.size)
  refine lit0 oneInt (B := w3.heap.size) (Nat.le_refl _) ?_
  intro s w4 hs hg4 hc4
  have hb34 := below_of_grow hg4
  refine lit0 oneSint (B := w3.heap.size) hb34.size ?_
  intro t w5 ht hg5 hc5
  have hb35 := hb34.grown hg5 hb34.size (by simp)
  have h88 : 8 ^ K ≤ 8 ^ 8 := Nat.pow_le_pow_right (by omega) (by omega)
  refine (c_l7Find (w0 := w3) (ha.grow hb3) hq.row h.1 (by rw [idn_length]; omega) K w5 s t [] [] [] hb35 (OwnRows.nil ht) (hs.kept hg5 (by simp)) (fun t ht => by simp at ht) (by rw [idn_length]; simp) (Places.nil L) (by simp only [List.length_nil]; omega)).mono ?_
  rintro e w6 ⟨u, rfl, hu, hg6, _⟩
  refine ⟨u, rfl, ?_, (hb3.trans (hb35.mono hb3.size)).grown hg6 (Nat.le_trans hb3.size hb35.size) (fun g hg => Nat.le_trans hb3.size (ht.lt g hg).1)⟩
  have hn := hu.row.n
  rw [List.nil_append, occ_up_nil (isP_pos h)] at hn
  rw [hn, CountLongestUpV, if_pos h, hK, Int.toNat_natCast]
theorem c_implCountLongestUp {w : World} {a : Sl} {L : List Int} (ha : RowI w a L) (hL : L.length < 2^38) :
    Calls PP F.impl_CountLongestUp #[a.v] w fun e w' => e = .returned (vI (CountLongestUpV L)) ∧ Below w.heap.size w w' := by
  have han : a.n = L.length := by have := ha.n; simpa using this
  refine impl_CountLongestUp.calls a ?_
  rw [impl_CountLongestUp.E_s, han]
  refine (c_implIsPerm ha hL).mono ?_
  rintro e w1 ⟨rfl, hb1⟩
  refine ⟨_, rfl, ?_⟩
  refine bif_intro (fun h => ?_) (fun h => ?_)
  · have h : ¬ IsP L := by simpa using h
    exact ⟨by rw [CountLongestUpV, if_neg h], hb1⟩
  have h : IsP L := by simpa using h
  obtain ⟨hl0, hln, hf, hl1⟩ := lu_facts h
  have h8 := h.1
  refine bif_intro (fun hz => ?_) (fun hz => ?_)
  · have : L = [] := by simpa using hz
    subst this
    have hz : luV [] = 0 := by simp at hln; omega
    exact ⟨by rw [CountLongestUpV, if_pos h, hz]; rfl, hb1⟩
  have hpos : 0 < L.length := List.length_pos_iff.2 (by simpa using hz)
  have hl1 := hl1 hpos
  refine (c_lengths (ha.grow hb1) hL).mono ?_
  rintro e w2 ⟨s, t, rfl, hs, ht, hb12⟩
  refine ⟨s, t, rfl, ?_⟩
  have hb2 := hb1.trans (hb12.mono hb1.size)
  have hsn : s.n = L.length := by have := hs.n; simpa [tab_length] using this
  show impl_CountLongestUp.L8 std a t 0 s (s.n : Int) 0 w2 _
  rw [hsn]
  refine impl_CountLongestUp.L8_rule _ _ _ _ _ _ _ _ (I := fun m i w' => 0 ≤ i ∧ i ≤ L.length ∧ Below w2.heap.size w2 w' ∧ m = sumUp L 0 0 ((luV L).toNat - 1) i.toNat) (μ := fun _ i _ => (L.length - i).toNat)
    ⟨by omega, by omega, Below.refl _ _, rfl⟩ ?_
  rintro m i w' ⟨hi0, hi, hb, hm⟩
  rw [impl_CountLongestUp.B8_s]
  refine bif_dec (fun h3 => ?_) (fun h3 => ?_)
  · have hlt : i.toNat < L.length := by omega
    obtain ⟨f1, f2, f3⟩ := hf i.toNat hlt
    refine RowI.get (hs.grow hb).row hi0 (by rw [tab_length]; omega) ?_
    rw [tab_getD _ hlt]
    refine (c_longestUp (ha.grow (hb2.trans (hb.mono hb2.size))) hL h.2.ne).mono ?_
    rintro e w3 ⟨rfl, hb3⟩
    refine ⟨_, rfl, ?_⟩
    have hb23 := hb.trans (hb3.mono hb.size)
    have hv := isP_pos h (i + 1) (by omega) (by omega)
    rw [show i + 1 - 1 = i by omega] at hv
    have hsc : (i + 1).toNat = i.toNat + 1 := by omega
    have hst : sumUp L 0 0 ((luV L).toNat - 1) (i + 1).toNat = sumUp L 0 0 ((luV L).toNat - 1) i.toNat + cn L i.toNat ((luV L).toNat - 1) := by
      rw [hsc, sumUp, Nat.zero_add, if_pos hv]
    have b1 := sumUp_le (L := L) (v := 0) (i := 0) (m := (luV L).toNat - 1) (c := i.toNat) (by omega)
    have b2 := cn_bound (P := L) ((luV L).toNat - 1) hlt
    have b3 : 2 ^ (L.length - 1 - i.toNat) ≤ 2 ^ 8 := Nat.pow_le_pow_right (by omega) (by omega)
    have b4 : 2 ^ L.length ≤ 2 ^ 8 := Nat.pow_le_pow_right (by omega) h8
    have b5 : i.toNat * 2 ^ L.length ≤ 8 * 2 ^ 8 := Nat.mul_le_mul (by omega) b4
    refine bif_intro (fun h4 => ?_) (fun h4 => ?_)
    · have h4 : (gl L L.length i.toNat).1 = luV L := by simpa using h4
      rw [h4] at f3
      refine RowI.get (ht.grow hb23).row hi0 (by rw [tab_length]; omega) ?_
      rw [tab_getD _ hlt, f3]
      refine ⟨_, i + 1, by rw [w64_succ hi0 (by omega)], ⟨by omega, by omega, hb23, ?_⟩, by omega⟩
      rw [w64_id (by omega) (by omega), hst]; omega
    · have h4 : (gl L L.length i.toNat).1 ≠ luV L := by simpa using h4
      refine ⟨m, i + 1, by rw [w64_succ hi0 (by omega)], ⟨by omega, by omega, hb23, ?_⟩, by omega⟩
      rw [hst, cn_none hlt f1 (by omega)]; omega
  · rw [impl_CountLongestUp.A8_0_s]
    have e : i.toNat = L.length := by omega
    rw [e] at hm
    refine ⟨?_, hb2.trans (hb.mono hb2.size)⟩
    rw [hm, CountLongestUpV, if_pos h]
    have := upN_count L ((luV L).toNat - 1) 0 L.length 0 (by omega)
    rw [show (luV L).toNat - 1 + 1 = (luV L).toNat by omega] at this
    rw [show (((0 : Nat) : Int)) = 0 from rfl] at this
    rw [this]

/-! ### The first one -/
theorem upN_cons_ne {L : List Int} {m : Nat} {k : Nat} (h : 0 < cn L k m) : upN L m ((k : Int) + 1) (L.getD k 0) ≠ [] := by
  intro e; rw [cn, e] at h; simp at h
open Classical in
noncomputable def FirstLongestUpV (L : List Int) : List Int := if IsP L then ((upN L (luV L).toNat 0 0).head?).getD [] else []
theorem head_len {L : List Int} : ∀ (m : Nat) (p v : Int) (r : List Int), r ∈ upN L m p v → r.length = m
  | 0, p, v, r, h => by simp [upN] at h; subst h; rfl
  | m + 1, p, v, r, h => by
    rw [upN, List.mem_flatMap] at h
    obtain ⟨x, _, hx⟩ := h
    split at hx
    · rw [List.mem_map] at hx
      obtain ⟨r', hr, rfl⟩ := hx
      simp [head_len m _ _ r' hr]
    · simp at hx
theorem upN_ne {L : List Int} (h : IsP L) : upN L (luV L).toNat 0 0 ≠ [] := by
  obtain ⟨hl0, hln, hf, hl1⟩ := lu_facts h
  by_cases hz : luV L = 0
  · rw [hz]; simp [upN]
  · obtain ⟨K, hK⟩ : ∃ K : Nat, luV L = (K : Int) + 1 := ⟨(luV L - 1).toNat, by omega⟩
    rw [hK, show ((K : Int) + 1).toNat = K + 1 by omega]
    intro e
    have hc := upN_count L K 0 L.length 0 (by omega)
    rw [show (((0 : Nat) : Int)) = 0 from rfl, e] at hc
    have h8 := h.1
    rcases mx_mem (f := fun j => (gl L L.length j).1) (n := L.length) with h1 | ⟨k, hk, h1⟩
    · rw [← luV_gl h.2.ne (by omega)] at h1; omega
    · rw [← luV_gl h.2.ne (by omega)] at h1
      obtain ⟨⟨m, hm, hfr, _⟩, _, _⟩ := hf k hk
      have : m = K + 1 := by omega
      subst this
      have hp := isP_pos h (k + 1) (by omega) (by omega)
      rw [show (k : Int) + 1 - 1 = k by omega, Int.toNat_natCast] at hp
      have := (sumUp_pos (P := L) (v := 0) (i := 0) (m := K) (c := L.length)).2 ⟨k, by omega, by omega, hp, (cn_Fr K hk).2 hfr⟩
      rw [← hc] at this
      simp at this
theorem FirstLongestUpV_len (L : List Int) : (FirstLongestUpV L).length < 2^38 := by
  unfold FirstLongestUpV
  split
  · rename_i h
    obtain ⟨hl0, hln, _, _⟩ := lu_facts h
    have h8 := h.1
    cases hh : (upN L (luV L).toNat 0 0).head? with
    | none => simp
    | some r =>
      have := head_len _ _ _ r (List.mem_of_mem_head? hh)
      simp only [Option.getD_some]
      omega
  · simp
theorem c_specFirstLongestUp {w : World} {a : Sl} {L : List Int} (ha : RowI w a L) (hL : L.length < 2^38) :
    Calls PP F.spec_FirstLongestUp #[a.v] w fun e w' => ∃ s : Sl, e = .returned s.v ∧ RowI w' s (FirstLongestUpV L) ∧ Below w.heap.size w w' := by
  refine spec_FirstLongestUp.calls a ?_
  rw [spec_FirstLongestUp.E_s]
  refine Quiet.call1 (s := .bool) (c_specIsPerm ha hL) ?_
  intro w1 hd
  have hb1 : Below w.heap.size w w1 := hd.below _
  refine bif_intro (fun h => ?_) (fun h => ?_)
  · have h : ¬ IsP L := by simpa using h
    refine lit0 oneInt (B := w.heap.size) hb1.size ?_
    intro s w2 hs hg _
    exact ⟨s, rfl, by rw [FirstLongestUpV, if_neg h]; exact hs.row, hb1.grown hg hb1.size (by simp)⟩
  have h : IsP L := by simpa using h
  obtain ⟨hl0, hln, hf, _⟩ := lu_facts h
  have h8 := h.1
  refine (c_l20Up (ha.grow hb1) hL).mono ?_
  rintro e w2 ⟨rfl, hb12⟩
  refine ⟨_, rfl, ?_⟩
  have hb2 := hb1.trans (hb12.mono hb1.size)
  obtain ⟨K, hK⟩ : ∃ K : Nat, luV L = K := ⟨(luV L).toNat, by omega⟩
  rw [hK]
  refine (c_IdentityPerm K (by omega)).mono ?_
  rintro e w3 ⟨q, rfl, hq, hb23⟩
  refine ⟨q, rfl, ?_⟩
  have hb3 := hb2.trans (hb23.mono hb2.size)
  refine lit0 oneInt (B := w3.heap.size) (Nat.le_refl _) ?_
  intro s w4 hs hg4 hc4
  have hb34 := below_of_grow hg4
  refine lit0 oneSint (B := w3.heap.size) hb34.size ?_
  intro t w5 ht hg5 hc5
  have hb35 := hb34.grown hg5 hb34.size (by simp)
  have h88 : 8 ^ K ≤ 8 ^ 8 := Nat.pow_le_pow_right (by omega) (by omega)
  refine (c_l7Find (w0 := w3) (ha.grow hb3) hq.row h.1 (by rw [idn_length]; omega) K w5 s t [] [] [] hb35 (OwnRows.nil ht) (hs.kept hg5 (by simp)) (fun t ht => by simp at ht) (by rw [idn_length]; simp) (Places.nil L) (by simp only [List.length_nil]; omega)).mono ?_
  rintro e w6 ⟨u, rfl, hu, hg6, _⟩
  refine ⟨u, rfl, ?_⟩
  rw [List.nil_append, occ_up_nil (isP_pos h)] at hu
  have hne := upN_ne h
  rw [hK, Int.toNat_natCast] at hne
  refine RowSS.get hu.row (by omega) (by have := List.length_pos_iff.2 hne; omega) fun r hr => ?_
  refine ⟨r, rfl, ?_, (hb3.trans (hb35.mono hb3.size)).grown hg6 (Nat.le_trans hb3.size hb35.size) (fun g hg => Nat.le_trans hb3.size (ht.lt g hg).1)⟩
  rw [FirstLongestUpV, if_pos h, hK, Int.toNat_natCast]
  have e1 : (upN L K 0 0).head?.getD [] = (upN L K 0 0).getD (0 : Int).toNat [] := by
    cases upN L K 0 0 <;> rfl
  rw [e1]; exact hr
theorem c_implFirstLongestUp {w : World} {a : Sl} {L : List Int} (ha : RowI w a L) (hL : L.length < 2^38) :
    Calls PP F.impl_FirstLongestUp #[a.v] w fun e w' => ∃ s : Sl, e = .returned s.v ∧ OwnI w' w.heap.size s (FirstLongestUpV L) ∧ Below w.heap.size w w' := by
  have han : a.n = L.length := by have := ha.n; simpa using this
  refine impl_FirstLongestUp.calls a ?_
  rw [impl_FirstLongestUp.E_s, han]
  refine (c_implIsPerm ha hL).mono ?_
  rintro e w1 ⟨rfl, hb1⟩
  refine ⟨_, rfl, ?_⟩
  refine bif_intro (fun h => ?_) (fun h => ?_)
  · have h : ¬ IsP L := by simpa using h
    exact ⟨Sl.nil, rfl, by rw [FirstLongestUpV, if_neg h]; exact Own.nil _ _ _, hb1⟩
  have h : IsP L := by simpa using h
  obtain ⟨hl0, hln, hf, _⟩ := lu_facts h
  have h8 := h.1
  refine (c_lengths (ha.grow hb1) hL).mono ?_
  rintro e w2 ⟨s, t, rfl, hs, ht, hb12⟩
  refine ⟨s, t, rfl, ?_⟩
  have hb2 := hb1.trans (hb12.mono hb1.size)
  refine lit0 oneInt (B := w2.heap.size) (Nat.le_refl _) ?_
  intro o0 w3 ho0 hg3 _
  have hb23 := below_of_grow hg3
  refine (c_longestUp (ha.grow (hb2.trans (hb23.mono hb2.size))) hL h.2.ne).mono ?_
  rintro e w4 ⟨rfl, hb34⟩
  refine ⟨_, rfl, ?_⟩
  have hb24 := hb23.trans (hb34.mono hb23.size)
  refine impl_FirstLongestUp.L7_rule _ _ _ _ _ _ _ _ _ (I := fun o want last i w' => 0 ≤ i ∧ i ≤ L.length ∧ Below w2.heap.size w2 w' ∧ 0 ≤ want ∧ want ≤ 8 ∧ 0 ≤ last ∧ ∃ M, OwnI w' w2.heap.size o M ∧ M.length ≤ i ∧ upN L want.toNat i last ≠ [] ∧
      (upN L (luV L).toNat 0 0).head? = ((upN L want.toNat i last).head?).map (M ++ ·) ∧ ∀ k : Nat, i ≤ k → k < L.length → last < L.getD k 0 → (gl L L.length k).1 ≤ want) (μ := fun _ _ _ i _ => (L.length - i).toNat)
    ⟨by omega, by omega, hb24, hl0, by omega, by omega, [], ho0.grow hb34, by simp, upN_ne h, by simp, fun k _ hk _ => (hf k hk).2.1⟩ ?_
  rintro o want last i w' ⟨hi0, hi, hb, hw0, hw8, hla, M, ho, hMl, hne, hhead, hall⟩
  rw [impl_FirstLongestUp.B7_s]
  refine bif_dec (fun h3 => ?_) (fun h3 => ?_)
  · have hlt : i.toNat < L.length := by omega
    obtain ⟨f1, f2, f3⟩ := hf i.toNat hlt
    refine RowI.get (ha.grow (hb2.trans (hb.mono hb2.size))) hi0 (by omega) ?_
    -- the place is passed by
    have skip : (0 < want → last < L.getD i.toNat 0 → (gl L L.length i.toNat).1 ≠ want) → upN L want.toNat i last = upN L want.toNat (i + 1) last := fun hc => by
      by_cases hz : want = 0
      · subst hz; rfl
      · obtain ⟨m, rfl⟩ : ∃ m : Nat, want = (m : Int) + 1 := ⟨(want - 1).toNat, by omega⟩
        rw [show ((m : Int) + 1).toNat = m + 1 by omega, upN_split L m last hi0 (by omega)]
        split
        · rename_i hv
          have h1 := hc (by omega) hv
          have h2 := hall i.toNat (by omega) hlt hv
          have h3 := cn_none (m := m) hlt f1 (by omega)
          rw [cn, show ((i.toNat : Nat) : Int) + 1 = i + 1 by omega] at h3
          rw [List.eq_nil_of_length_eq_zero h3]; rfl
        · rfl
    have pass : (0 < want → last < L.getD i.toNat 0 → (gl L L.length i.toNat).1 ≠ want) → ∃ out_5_n want_6_n last_7_n t23_n, impl_FirstLongestUp.emb7 s o want last a (L.length : Int) (w64 (i + 1)) = impl_FirstLongestUp.emb7 s out_5_n want_6_n last_7_n a (L.length : Int) t23_n ∧
        (0 ≤ t23_n ∧ t23_n ≤ L.length ∧ Below w2.heap.size w2 w' ∧ 0 ≤ want_6_n ∧ want_6_n ≤ 8 ∧ 0 ≤ last_7_n ∧ ∃ M, OwnI w' w2.heap.size out_5_n M ∧ M.length ≤ t23_n ∧ upN L want_6_n.toNat t23_n last_7_n ≠ [] ∧
          (upN L (luV L).toNat 0 0).head? = ((upN L want_6_n.toNat t23_n last_7_n).head?).map (M ++ ·) ∧ ∀ k : Nat, t23_n ≤ k → k < L.length → last_7_n < L.getD k 0 → (gl L L.length k).1 ≤ want_6_n) ∧ (L.length - t23_n).toNat < (L.length - i).toNat := by
      intro hc
      have hsk := skip hc
      refine ⟨o, want, last, i + 1, by rw [w64_succ hi0 (by omega)], ⟨by omega, by omega, hb, hw0, hw8, hla, M, ho, by omega, by rw [← hsk]; exact hne, by rw [← hsk]; exact hhead, fun k hk1 hk2 hk3 => hall k (by omega) hk2 hk3⟩, by omega⟩
    refine bif_dec (fun h4 => ?_) (fun h4 => pass fun h => by omega)
    refine RowI.get (hs.grow hb).row hi0 (by rw [tab_length]; omega) ?_
    rw [tab_getD _ hlt]
    refine bif_intro (fun h5 => ?_) (fun h5 => pass fun _ _ => by simpa using h5)
    have h5 : (gl L L.length i.toNat).1 = want := by simpa using h5
    refine bif_dec (fun h6 => ?_) (fun h6 => pass fun _ h => by omega)
    clear pass skip
    rw [w64_succ (n := i) hi0 (by omega)]
    refine append_int ho hb.size (by omega) ?_
    intro o' w5 ho5 hg5 _
    obtain ⟨m, rfl⟩ : ∃ m : Nat, want = (m : Int) + 1 := ⟨(want - 1).toNat, by omega⟩
    obtain ⟨p, hp, hfr, hmax⟩ := id f1
    have hpm : p = m + 1 := by omega
    subst hpm
    have hne2 := upN_cons_ne ((cn_Fr m hlt).2 hfr)
    rw [show ((i.toNat : Nat) : Int) + 1 = i + 1 by omega] at hne2
    refine ⟨o', m, L.getD i.toNat 0, i + 1, by rw [w64_id (n := (m : Int) + 1 - 1) (by omega) (by omega), show (m : Int) + 1 - 1 = m by omega], ⟨by omega, by omega, hb.grown hg5 hb.size (fun g hg => (ho.lt g hg).1), by omega, by omega, by omega, M ++ [i + 1], ho5, by simp; omega, by simpa using hne2, ?_, fun k hk1 hk2 hk3 => ?_⟩, by omega⟩
    · rw [hhead, show ((m : Int) + 1).toNat = m + 1 by omega, upN_split L m last hi0 (by omega), if_pos h6, Int.toNat_natCast]
      cases hu : upN L m (i + 1) (L.getD i.toNat 0) with
      | nil => exact absurd hu hne2
      | cons x r => simp
    · obtain ⟨p2, hp2, hfr2, _⟩ := (hf k hk2).1
      have := hmax (p2 + 1) (.cons (by omega) hk2 hk3 hfr2)
      omega
  · rw [impl_FirstLongestUp.A7_0_s]
    have hi : i = L.length := by omega
    subst hi
    have hw : want = 0 := by
      apply Classical.byContradiction
      intro hz
      obtain ⟨m, rfl⟩ : ∃ m : Nat, want = (m : Int) + 1 := ⟨(want - 1).toNat, by omega⟩
      exact hne (by rw [show ((m : Int) + 1).toNat = m + 1 by omega, upN_end L m last (by omega)])
    subst hw
    refine ⟨o, rfl, ?_, hb2.trans (hb.mono hb2.size)⟩
    rw [FirstLongestUpV, if_pos h, hhead]
    simp only [upN, Int.toNat_zero, List.head?_cons, Option.map_some, List.append_nil, Option.getD_some]
    exact ho.mono hb2.size
theorem lawC_FnExactCountLongestUp (a0 : Sl) (L0 : List Int) (w : World) (ha0 : RowI w a0 L0) (hbd0 : ∀ x ∈ L0, -9223372036854775808 ≤ x ∧ x ≤ 9223372036854775807) :
    Calls PP F.laws_FnExactCountLongestUp #[a0.v] w fun e w' => e = .returned (.bool true) ∧ Below w.heap.size w w' := by
  have han0 : a0.n = L0.length := by have := ha0.n; simpa using this
  refine laws_FnExactCountLongestUp.calls a0 ?_
  rw [laws_FnExactCountLongestUp.E_s]
  have b_0_0 : Below w.heap.size w w := Below.refl _ _
  refine bif_dec (fun h => ⟨rfl, b_0_0⟩) (fun h0s => ?_)
  have hL0 : L0.length < 2 ^ 38 := by omega
  refine (c_toIntS (ha0.grow b_0_0) (by omega)).mono ?_
  rintro e w1 ⟨xw0, rfl, hxw0, s_0⟩
  refine ⟨xw0, rfl, ?_⟩
  have b_0_1 := b_0_0.trans (s_0.mono b_0_0.size)
  have b_1_1 : Below w1.heap.size w1 w1 := Below.refl _ _
  refine (c_specCountLongestUp (hxw0.row.grow b_1_1) hL0).mono ?_
  rintro e w2 ⟨rfl, s_1⟩
  refine ⟨_, rfl, ?_⟩
  have b_0_2 := b_0_1.trans (s_1.mono b_0_1.size)
  have b_1_2 := b_1_1.trans (s_1.mono b_1_1.size)
  have b_2_2 : Below w2.heap.size w2 w2 := Below.refl _ _
  refine (c_toIntS (ha0.grow b_0_2) (by omega)).mono ?_
  rintro e w3 ⟨xx0, rfl, hxx0, s_2⟩
  refine ⟨xx0, rfl, ?_⟩
  have b_0_3 := b_0_2.trans (s_2.mono b_0_2.size)
  have b_1_3 := b_1_2.trans (s_2.mono b_1_2.size)
  have b_2_3 := b_2_2.trans (s_2.mono b_2_2.size)
  have b_3_3 : Below w3.heap.size w3 w3 := Below.refl _ _
  refine (c_implCountLongestUp (hxx0.row.grow b_3_3) hL0).mono ?_
  rintro e w4 ⟨rfl, s_3⟩
  refine ⟨_, rfl, ?_⟩
  have b_0_4 := b_0_3.trans (s_3.mono b_0_3.size)
  have b_1_4 := b_1_3.trans (s_3.mono b_1_3.size)
  have b_2_4 := b_2_3.trans (s_3.mono b_2_3.size)
  have b_3_4 := b_3_3.trans (s_3.mono b_3_3.size)
  have b_4_4 : Below w4.heap.size w4 w4 := Below.refl _ _
  refine bif_f (by simp) ?_
  refine (c_toIntS (ha0.grow b_0_4) (by omega)).mono ?_
  rintro e w5 ⟨y0, rfl, hy0, s_4⟩
  refine ⟨y0, rfl, ?_⟩
  have b_0_5 := b_0_4.trans (s_4.mono b_0_4.size)
  have b_1_5 := b_1_4.trans (s_4.mono b_1_4.size)
  have b_2_5 := b_2_4.trans (s_4.mono b_2_4.size)
  have b_3_5 := b_3_4.trans (s_4.mono b_3_4.size)
  have b_4_5 := b_4_4.trans (s_4.mono b_4_4.size)
  refine Quiet.call1 (s := .bool) (c_eqIntS (hxx0.row.grow b_3_5) hy0.row (by omega)) ?_
  intro w6 hd6
  have s_5 : Below w5.heap.size w5 w6 := hd6.below _
  have b_0_6 := b_0_5.trans (s_5.mono b_0_5.size)
  have b_1_6 := b_1_5.trans (s_5.mono b_1_5.size)
  have b_2_6 := b_2_5.trans (s_5.mono b_2_5.size)
  have b_3_6 := b_3_5.trans (s_5.mono b_3_5.size)
  have b_4_6 := b_4_5.trans (s_5.mono b_4_5.size)
  refine bif_f (by simp) ?_
  exact ⟨rfl, b_0_6⟩

theorem lawC_FnExactFirstLongestUp (a0 : Sl) (L0 : List Int) (w : World) (ha0 : RowI w a0 L0) (hbd0 : ∀ x ∈ L0, -9223372036854775808 ≤ x ∧ x ≤ 9223372036854775807) :
    Calls PP F.laws_FnExactFirstLongestUp #[a0.v] w fun e w' => e = .returned (.bool true) ∧ Below w.heap.size w w' := by
  have han0 : a0.n = L0.length := by have := ha0.n; simpa using this
  refine laws_FnExactFirstLongestUp.calls a0 ?_
  rw [laws_FnExactFirstLongestUp.E_s]
  have b_0_0 : Below w.heap.size w w := Below.refl _ _
  refine bif_dec (fun h => ⟨rfl, b_0_0⟩) (fun h0s => ?_)
  have hL0 : L0.length < 2 ^ 38 := by omega
  refine (c_toIntS (ha0.grow b_0_0) (by omega)).mono ?_
  rintro e w1 ⟨xw0, rfl, hxw0, s_0⟩
  refine ⟨xw0, rfl, ?_⟩
  have b_0_1 := b_0_0.trans (s_0.mono b_0_0.size)
  have b_1_1 : Below w1.heap.size w1 w1 := Below.refl _ _
  refine (c_specFirstLongestUp (hxw0.row.grow b_1_1) hL0).mono ?_
  rintro e w2 ⟨w0, rfl, hw0, s_1⟩
  refine ⟨w0, rfl, ?_⟩
  have b_0_2 := b_0_1.trans (s_1.mono b_0_1.size)
  have b_1_2 := b_1_1.trans (s_1.mono b_1_1.size)
  have b_2_2 : Below w2.heap.size w2 w2 := Below.refl _ _
  refine (c_toIntS (ha0.grow b_0_2) (by omega)).mono ?_
  rintro e w3 ⟨xx0, rfl, hxx0, s_2⟩
  refine ⟨xx0, rfl, ?_⟩
  have b_0_3 := b_0_2.trans (s_2.mono b_0_2.size)
  have b_1_3 := b_1_2.trans (s_2.mono b_1_2.size)
  have b_2_3 := b_2_2.trans (s_2.mono b_2_2.size)
  have b_3_3 : Below w3.heap.size w3 w3 := Below.refl _ _
  refine (c_implFirstLongestUp (hxx0.row.grow b_3_3) hL0).mono ?_
  rintro e w4 ⟨g0, rfl, hg0, s_3⟩
  refine ⟨g0, rfl, ?_⟩
  have b_0_4 := b_0_3.trans (s_3.mono b_0_3.size)
  have b_1_4 := b_1_3.trans (s_3.mono b_1_3.size)
  have b_2_4 := b_2_3.trans (s_3.mono b_2_3.size)
  have b_3_4 := b_3_3.trans (s_3.mono b_3_3.size)
  have b_4_4 : Below w4.heap.size w4 w4 := Below.refl _ _
  have hv0 : (FirstLongestUpV L0).length < 2^38 := FirstLongestUpV_len L0
  refine Quiet.call1 (s := .bool) (c_eqIntS (hg0.row.grow b_4_4) (hw0.grow b_2_4) (by omega)) ?_
  intro w5 hd5
  have s_4 : Below w4.heap.size w4 w5 := hd5.below _
  have b_0_5 := b_0_4.trans (s_4.mono b_0_4.size)
  have b_1_5 := b_1_4.trans (s_4.mono b_1_4.size)
  have b_2_5 := b_2_4.trans (s_4.mono b_2_4.size)
  have b_3_5 := b_3_4.trans (s_4.mono b_3_4.size)
  have b_4_5 := b_4_4.trans (s_4.mono b_4_4.size)
  refine bif_f (by simp) ?_
  have b_5_5 : Below w5.heap.size w5 w5 := Below.refl _ _
  refine (c_toIntS (ha0.grow b_0_5) (by omega)).mono ?_
  rintro e w6 ⟨y0, rfl, hy0, s_5⟩
  refine ⟨y0, rfl, ?_⟩
  have b_0_6 := b_0_5.trans (s_5.mono b_0_5.size)
  have b_1_6 := b_1_5.trans (s_5.mono b_1_5.size)
  have b_2_6 := b_2_5.trans (s_5.mono b_2_5.size)
  have b_3_6 := b_3_5.trans (s_5.mono b_3_5.size)
  have b_4_6 := b_4_5.trans (s_5.mono b_4_5.size)
  have b_5_6 := b_5_5.trans (s_5.mono b_5_5.size)
  refine Quiet.call1 (s := .bool) (c_eqIntS (hxx0.row.grow b_3_6) hy0.row (by omega)) ?_
  intro w7 hd7
  have s_6 : Below w6.heap.size w6 w7 := hd7.below _
  have b_0_7 := b_0_6.trans (s_6.mono b_0_6.size)
  have b_1_7 := b_1_6.trans (s_6.mono b_1_6.size)
  have b_2_7 := b_2_6.trans (s_6.mono b_2_6.size)
  have b_3_7 := b_3_6.trans (s_6.mono b_3_6.size)
  have b_4_7 := b_4_6.trans (s_6.mono b_4_6.size)
  have b_5_7 := b_5_6.trans (s_6.mono b_5_6.size)
  refine bif_f (by simp) ?_
  have hxx0m := hxx0.grow b_3_7
  have hg0m := hg0.grow b_4_7
  refine (c_markIntS hxx0m (by omega) (k := 1) (by omega) (by omega)).mono ?_
  rintro e w8 ⟨rfl, _, hg_8, hz_8⟩
  have ks_8 := keeps_grown hg_8
  refine ⟨_, rfl, ?_⟩
  have lo_8 : ∀ g, xx0.blk = some g → w2.heap.size ≤ g := (fun g e => (hxx0.lt g e).1)
  have hi_8 : ∀ g, xx0.blk = some g → g < w3.heap.size := (fun g e => (hxx0.lt g e).2)
  have b_0_8 := b_0_7.trans (ks_8.below (B := w.heap.size) (fun g e => Nat.le_trans b_0_2.size (lo_8 g e)) b_0_7.size)
  have b_1_8 := b_1_7.trans (ks_8.below (B := w1.heap.size) (fun g e => Nat.le_trans b_1_2.size (lo_8 g e)) b_1_7.size)
  have b_2_8 := b_2_7.trans (ks_8.below (B := w2.heap.size) (fun g e => Nat.le_trans b_2_2.size (lo_8 g e)) b_2_7.size)
  have hg0m := hg0m.keeps ks_8 (fun g e1 e2 => by have := hi_8 g e2; have := (hg0.lt g e1).1; have := b_3_3.size; omega)
  refine bif_dec (fun h => by omega) (fun h => ?_)
  have b_8_8 : Below w8.heap.size w8 w8 := Below.refl _ _
  have hg0 := hg0m
  refine Quiet.call1 (s := .bool) (c_eqIntS (hg0.row.grow b_8_8) (hw0.grow b_2_8) (by omega)) ?_
  intro w9 hd9
  have s_8 : Below w8.heap.size w8 w9 := hd9.below _
  have b_0_9 := b_0_8.trans (s_8.mono b_0_8.size)
  have b_1_9 := b_1_8.trans (s_8.mono b_1_8.size)
  have b_2_9 := b_2_8.trans (s_8.mono b_2_8.size)
  have b_8_9 := b_8_8.trans (s_8.mono b_8_8.size)
  refine bif_f (by simp) ?_
  have hg0p := hg0.grow b_8_9
  have b_9_9 : Below w9.heap.size w9 w9 := Below.refl _ _
  refine (c_markIntS hg0p (by omega) (k := 1) (by omega) (by omega)).mono ?_
  rintro e w10 ⟨rfl, hq0, hg_10, hz_10⟩
  have ks_10 := keeps_grown hg_10
  refine ⟨_, rfl, ?_⟩
  have lo_10 : ∀ g, g0.blk = some g → w3.heap.size ≤ g := (fun g e => (hg0p.lt g e).1)
  have b_0_10 := b_0_9.trans (ks_10.below (B := w.heap.size) (fun g e => Nat.le_trans b_0_3.size (lo_10 g e)) b_0_9.size)
  have b_1_10 := b_1_9.trans (ks_10.below (B := w1.heap.size) (fun g e => Nat.le_trans b_1_3.size (lo_10 g e)) b_1_9.size)
  have b_2_10 := b_2_9.trans (ks_10.below (B := w2.heap.size) (fun g e => Nat.le_trans b_2_3.size (lo_10 g e)) b_2_9.size)
  have b_10_10 : Below w10.heap.size w10 w10 := Below.refl _ _
  refine Quiet.call1 (s := .int .i64) (c_heldIntS (n := (FirstLongestUpV L0).length) (hq0.row.grow b_10_10) (by omega) (by omega) (by omega)) ?_
  intro w11 hd11
  have s_10 : Below w10.heap.size w10 w11 := hd11.below _
  have b_0_11 := b_0_10.trans (s_10.mono b_0_10.size)
  have b_1_11 := b_1_10.trans (s_10.mono b_1_10.size)
  have b_2_11 := b_2_10.trans (s_10.mono b_2_10.size)
  have b_10_11 := b_10_10.trans (s_10.mono b_10_10.size)
  refine bif_dec (fun h => by omega) (fun h => ?_)
  refine bif_f (by simp) ?_
  have b_11_11 : Below w11.heap.size w11 w11 := Below.refl _ _
  refine (c_toIntS (ha0.grow b_0_11) (by omega)).mono ?_
  rintro e w12 ⟨xv0, rfl, hxv0, s_11⟩
  refine ⟨xv0, rfl, ?_⟩
  have b_0_12 := b_0_11.trans (s_11.mono b_0_11.size)
  have b_1_12 := b_1_11.trans (s_11.mono b_1_11.size)
  have b_2_12 := b_2_11.trans (s_11.mono b_2_11.size)
  have b_10_12 := b_10_11.trans (s_11.mono b_10_11.size)
  have b_11_12 := b_11_11.trans (s_11.mono b_11_11.size)
  have b_12_12 : Below w12.heap.size w12 w12 := Below.refl _ _
  refine (c_implFirstLongestUp (hxv0.row.grow b_12_12) hL0).mono ?_
  rintro e w13 ⟨h0, rfl, hh0, s_12⟩
  refine ⟨h0, rfl, ?_⟩
  have b_0_13 := b_0_12.trans (s_12.mono b_0_12.size)
  have b_1_13 := b_1_12.trans (s_12.mono b_1_12.size)
  have b_2_13 := b_2_12.trans (s_12.mono b_2_12.size)
  have b_10_13 := b_10_12.trans (s_12.mono b_10_12.size)
  have b_11_13 := b_11_12.trans (s_12.mono b_11_12.size)
  have b_12_13 := b_12_12.trans (s_12.mono b_12_12.size)
  have b_13_13 : Below w13.heap.size w13 w13 := Below.refl _ _
  refine Quiet.call1 (s := .bool) (c_eqIntS (hh0.row.grow b_13_13) (hw0.grow b_2_13) (by omega)) ?_
  intro w14 hd14
  have s_13 : Below w13.heap.size w13 w14 := hd14.below _
  have b_0_14 := b_0_13.trans (s_13.mono b_0_13.size)
  have b_1_14 := b_1_13.trans (s_13.mono b_1_13.size)
  have b_2_14 := b_2_13.trans (s_13.mono b_2_13.size)
  have b_10_14 := b_10_13.trans (s_13.mono b_10_13.size)
  have b_11_14 := b_11_13.trans (s_13.mono b_11_13.size)
  have b_12_14 := b_12_13.trans (s_13.mono b_12_13.size)
  have b_13_14 := b_13_13.trans (s_13.mono b_13_13.size)
  refine bif_f (by simp) ?_
  refine Quiet.call1 (s := .int .i64) (c_heldIntS (n := (FirstLongestUpV L0).length) (hq0.row.grow b_10_14) (by omega) (by omega) (by omega)) ?_
  intro w15 hd15
  have s_14 : Below w14.heap.size w14 w15 := hd15.below _
  have b_0_15 := b_0_14.trans (s_14.mono b_0_14.size)
  have b_1_15 := b_1_14.trans (s_14.mono b_1_14.size)
  have b_2_15 := b_2_14.trans (s_14.mono b_2_14.size)
  have b_10_15 := b_10_14.trans (s_14.mono b_10_14.size)
  have b_11_15 := b_11_14.trans (s_14.mono b_11_14.size)
  have b_12_15 := b_12_14.trans (s_14.mono b_12_14.size)
  have b_13_15 := b_13_14.trans (s_14.mono b_13_14.size)
  refine bif_dec (fun h => by omega) (fun h => ?_)
  refine bif_f (by simp) ?_
  exact ⟨rfl, b_0_15⟩

end Go.Proofs.Ytliabbhfagfagaa
