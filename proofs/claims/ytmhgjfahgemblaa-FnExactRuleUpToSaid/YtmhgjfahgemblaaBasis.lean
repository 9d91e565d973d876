/- Bases and classes: both texts of IsBasis, avoids, InClass. -/
import Derived.Test.YtmhgjfahgemblaaCodeBa
import Derived.Test.YtmhgjfahgemblaaFuSc
import Derived.Test.YtmhgjfahgemblaaFind
import Derived.Test.YtmhgjfahgemblaaCmpMath
import Derived.Test.YtmhgjfahgemblaaL1
namespace Go.Proofs.Ytmhgjfahgemblaa
open Go Go.RowKit
set_option maxRecDepth 100000

theorem c_isNaN' (n : Int) : Pure F.cmp_isNaN_int_ #[vI n] (.bool false) := by
  intro w
  refine cmp_isNaN_int_.calls n ?_
  rw [cmp_isNaN_int_.E_s]
  exact ⟨by simp, rfl⟩
theorem c_Compare (a b : Int) : Pure F.cmp_Compare_int_ #[vI a, vI b] (vI (if a < b then -1 else if a > b then 1 else 0)) := by
  intro w
  refine cmp_Compare_int_.calls a b ?_
  rw [cmp_Compare_int_.E_s]
  refine Pure.pcall1 (s := .bool) (c_isNaN' a) ?_
  refine Pure.pcall1 (s := .bool) (c_isNaN' b) ?_
  refine bif_f rfl ?_
  refine bif_f rfl ?_
  refine bif_dec (fun h => ⟨by rw [if_pos h], rfl⟩) (fun h => ?_)
  refine bif_dec (fun h2 => ⟨by rw [if_neg h, if_pos h2], rfl⟩) (fun h2 => ⟨by rw [if_neg h, if_neg h2], rfl⟩)
theorem c_CompareS {w : World} {a b : Sl} {L M : List Int} (ha : RowI w a L) (hb : RowI w b M) (hL : L.length < 2^38) : Quiet F.slices_Compare___int_int_ #[a.v, b.v] w (vI (lexC L M)) := by
  intro w1 hd
  have han : a.n = L.length := by have := ha.n; simpa using this
  have hbn : b.n = M.length := by have := hb.n; simpa using this
  refine slices_Compare___int_int_.calls a b ?_
  rw [slices_Compare___int_int_.E_s, han]
  refine slices_Compare___int_int_.L2_rule _ _ _ _ _ _ _ (I := fun k w' => w' = w1 ∧ 0 ≤ k ∧ k ≤ L.length ∧ k ≤ M.length ∧ lexC L M = lexC (L.drop k.toNat) (M.drop k.toNat)) (μ := fun k _ => (L.length - k).toNat) ⟨rfl, by omega, by omega, by omega, rfl⟩ ?_
  rintro k w' ⟨rfl, h0, hk, hkM, he⟩
  rw [slices_Compare___int_int_.B2_s, hbn]
  refine bif_dec (fun h3 => ?_) (fun h3 => ?_)
  · have hlt : k.toNat < L.length := by omega
    refine RowI.get (ha.heap hd.heap') h0 (by omega) ?_
    refine bif_dec (fun h4 => ?_) (fun h4 => ?_)
    · rw [slices_Compare___int_int_.R2_s]
      refine ⟨?_, Drew.refl _⟩
      rw [he, show M.drop k.toNat = [] from List.drop_eq_nil_of_le (by omega), List.drop_eq_getElem_cons hlt, lexC]
    · refine RowI.get (hb.heap hd.heap') h0 (by omega) ?_
      refine Pure.pcall1 (s := .int .i64) (c_Compare _ _) ?_
      rw [lexC_drop hlt (by omega)] at he
      refine bif_intro (fun h5 => ?_) (fun h5 => ?_)
      · rw [slices_Compare___int_int_.R2_s]
        refine ⟨?_, Drew.refl _⟩
        rw [he]
        split
        · rfl
        · split
          · rfl
          · rename_i h6 h7
            rw [if_neg h6, if_neg h7] at h5
            simp at h5
      · have h6 : ¬ L.getD k.toNat 0 < M.getD k.toNat 0 := fun h => by rw [if_pos h] at h5; simp at h5
        have h7 : ¬ L.getD k.toNat 0 > M.getD k.toNat 0 := fun h => by rw [if_neg h6, if_pos h] at h5; simp at h5
        rw [if_neg h6, if_neg h7] at he
        exact ⟨k + 1, by rw [w64_succ h0 (by omega)], ⟨rfl, by omega, by omega, by omega, by rw [show (k + 1).toNat = k.toNat + 1 by omega]; exact he⟩, by omega⟩
  · rw [slices_Compare___int_int_.A2_0_s, han, hbn]
    rw [show L.drop k.toNat = [] from List.drop_eq_nil_of_le (by omega)] at he
    refine bif_dec (fun h4 => ?_) (fun h4 => ?_)
    · refine ⟨?_, Drew.refl _⟩
      rw [he, List.drop_eq_getElem_cons (show k.toNat < M.length by omega), lexC]
    · refine ⟨?_, Drew.refl _⟩
      rw [he, List.drop_eq_nil_of_le (by omega), lexC]
theorem fill_two (z v u : Value) (hz : z.cells = #[z]) (hv : One v) (hu : One u) : Instr.fill (fun i => some (i * 1, 1)) ((Array.range (2 * 1)).map (z.cells[· % z.cells.size]!)) [(0, v), (1, u)] = some #[v, u] := by
  simp [Instr.fill, hv.1, hu.1, hz, Array.range]
  rfl
theorem lit2 {t e z} (hT : OneT t e z) {w : World} {B : Nat} (hB : B ≤ w.heap.size) {v u : Value} (hv : One v) (hu2 : One u) {K : Sl → World → Prop}
    (h : ∀ s w', Own w' B e s [v, u] → w.grownBy w' none → K s w') : sem1 .sl PP (Instr.buildSlice t 2 #[(0, v), (1, u)]) w K := by
  obtain ⟨i, hu, hi, hz, hs, hb, hzc⟩ := hT
  have hrun : (Instr.buildSlice t 2 #[(0, v), (1, u)]).run PP w = .ok (.slice (some ⟨w.heap.size, 0, none⟩) 2 2) (w.alloc (.cells #[v, u] e)) := by
    refine run_buildSlice w t e 2 #[(0, v), (1, u)] #[v, u] i z hu hi hz (by rw [hs]; decide) (by rw [hs]; decide) ?_
    rw [hs]
    exact fill_two z v u hzc hv hu2
  exact ⟨⟨some ⟨w.heap.size, 0, none⟩, 2, 2⟩, _, hrun, h _ _ ⟨rfl, Nat.le_refl _, by simp only [maxLen]; omega, .inr ⟨_, _, rfl, hB, heap_alloc_new w _, rfl, rfl⟩⟩ (World.grownBy_alloc w _ none)⟩
theorem c_Or {w : World} {a : Sl} {x y : Int} (ha : RowI w a [x, y]) : Quiet F.cmp_Or_int_ #[a.v] w (vI (if x ≠ 0 then x else y)) := by
  intro w1 hd
  have han : a.n = 2 := by have := ha.n; simpa using this
  have haw := ha.heap hd.heap'
  refine cmp_Or_int_.calls a ?_
  rw [cmp_Or_int_.E_s, han]
  refine cmp_Or_int_.L3_rule _ _ _ _ _ _ (I := fun k w' => w' = w1 ∧ 0 ≤ k ∧ k ≤ 2 ∧ (1 ≤ k → x = 0) ∧ (2 ≤ k → y = 0)) (μ := fun k _ => (2 - k).toNat) ⟨rfl, by omega, by omega, fun h => by omega, fun h => by omega⟩ ?_
  rintro k w' ⟨rfl, h0, hk, hx, hy⟩
  rw [cmp_Or_int_.B3_s]
  refine bif_dec (fun h3 => ?_) (fun h3 => ?_)
  · refine RowI.get haw h0 (by simp; omega) ?_
    have hk2 : k = 0 ∨ k = 1 := by omega
    refine bif_intro (fun h5 => ?_) (fun h5 => ?_)
    · rw [cmp_Or_int_.R3_s]
      refine ⟨?_, Drew.refl _⟩
      rcases hk2 with rfl | rfl
      · have h5 : x ≠ 0 := by simpa using h5
        rw [if_pos h5]; rfl
      · rw [if_neg (by simp [hx (by omega)])]; rfl
    · refine ⟨k + 1, by rw [w64_succ h0 (by omega)], ⟨rfl, by omega, by omega, fun h => ?_, fun h => ?_⟩, by omega⟩
      · rcases hk2 with rfl | rfl
        · simpa using h5
        · exact hx (by omega)
      · rcases hk2 with rfl | rfl
        · omega
        · simpa using h5
  · rw [cmp_Or_int_.A3_0_s]
    refine ⟨?_, Drew.refl _⟩
    rw [hx (by omega), hy (by omega)]; rfl
theorem c_comparePerms {w : World} {a b : Sl} {L M : List Int} (ha : RowI w a L) (hb : RowI w b M) (hL : L.length < 2^38) :
    Calls PP F.impl_comparePerms #[a.v, b.v] w fun e w' => e = .returned (vI (cmpP L M)) ∧ Below w.heap.size w w' := by
  have han : a.n = L.length := by have := ha.n; simpa using this
  have hbn : b.n = M.length := by have := hb.n; simpa using this
  refine impl_comparePerms.calls a b ?_
  rw [impl_comparePerms.E_s, han, hbn]
  refine Pure.pcall1 (s := .int .i64) (c_Compare _ _) ?_
  refine Quiet.call1 (s := .int .i64) (c_CompareS ha hb hL) ?_
  intro w1 hd
  refine lit2 oneInt (B := w1.heap.size) (Nat.le_refl _) (One.int _) (One.int _) ?_
  intro s w2 hs hg
  have hb2 : Below w.heap.size w w2 := (hd.below w.heap.size).trans ((below_of_grow hg).mono (by rw [hd.heap']; exact Nat.le_refl _))
  have hs : OwnI w2 w1.heap.size s [if (L.length : Int) < M.length then -1 else if (L.length : Int) > M.length then 1 else 0, lexC L M] := hs
  refine Quiet.call1 (s := .int .i64) (c_Or hs.row) ?_
  intro w3 hd3
  refine ⟨?_, hb2.trans (hd3.below _)⟩
  congr 2
  unfold cmpP
  by_cases h1 : L.length < M.length
  · rw [if_pos (show (L.length : Int) < (M.length : Int) by omega), if_pos h1]; rfl
  · by_cases h2 : L.length > M.length
    · rw [if_neg (show ¬ (L.length : Int) < (M.length : Int) by omega), if_pos (show (L.length : Int) > (M.length : Int) by omega), if_neg h1, if_pos h2]; rfl
    · rw [if_neg (show ¬ (L.length : Int) < (M.length : Int) by omega), if_neg (show ¬ (L.length : Int) > (M.length : Int) by omega), if_neg h1, if_neg h2]; rfl
theorem c_l2Before {w : World} {a b : Sl} {L M : List Int} (ha : RowI w a L) (hb : RowI w b M) (hL : L.length < 2^38) : Quiet F.spec_l2Before #[a.v, b.v] w (.bool (decide (cmpP L M < 0))) := by
  intro w1 hd
  have han : a.n = L.length := by have := ha.n; simpa using this
  have hbn : b.n = M.length := by have := hb.n; simpa using this
  refine spec_l2Before.calls a b ?_
  rw [spec_l2Before.E_s, han, hbn]
  refine bif_intro (fun h => ?_) (fun h => ?_)
  · have h : L.length ≠ M.length := by simp at h; omega
    refine ⟨?_, Drew.refl _⟩
    congr 2
    unfold cmpP
    by_cases h1 : L.length < M.length
    · rw [if_pos h1, decide_eq_true (by omega)]; rfl
    · rw [if_neg h1, if_pos (by omega), decide_eq_false (by omega)]; rfl
  have hlen : L.length = M.length := by simp at h; omega
  have hc : cmpP L M = lexC L M := by rw [cmpP, if_neg (by omega), if_neg (by omega)]
  refine spec_l2Before.L4_rule _ _ _ _ _ (I := fun k w' => Drew w1 w' ∧ 0 ≤ k ∧ k ≤ L.length ∧ lexC L M = lexC (L.drop k.toNat) (M.drop k.toNat)) (μ := fun k _ => (L.length - k).toNat) ⟨Drew.refl _, by omega, by omega, rfl⟩ ?_
  rintro k w' ⟨hd2, h0, hk, he⟩
  have hh := (hd.trans hd2).heap'
  rw [spec_l2Before.B4_s, han]
  refine bif_dec (fun h3 => ?_) (fun h3 => ?_)
  · have hlt : k.toNat < L.length := by omega
    refine RowI.get (ha.heap hh) h0 (by omega) ?_
    refine RowI.get (hb.heap hh) h0 (by omega) ?_
    refine drew_intro fun w3 hd3 => ?_
    have hh3 := ((hd.trans hd2).trans hd3).heap'
    rw [lexC_drop hlt (by omega)] at he
    refine bif_intro (fun h5 => ?_) (fun h5 => ?_)
    · have h5 : L.getD k.toNat 0 ≠ M.getD k.toNat 0 := by simpa using h5
      refine RowI.get (ha.heap hh3) h0 (by omega) ?_
      refine RowI.get (hb.heap hh3) h0 (by omega) ?_
      refine drew_intro fun w4 hd4 => ?_
      rw [spec_l2Before.R4_s]
      refine ⟨?_, (hd2.trans hd3).trans hd4⟩
      congr 2
      rw [hc, he]
      by_cases h6 : L.getD k.toNat 0 < M.getD k.toNat 0
      · rw [if_pos h6, decide_eq_true h6]; rfl
      · rw [if_neg h6, if_pos (by omega), decide_eq_false h6]; rfl
    · have h5 : L.getD k.toNat 0 = M.getD k.toNat 0 := by simpa using h5
      rw [if_neg (by omega), if_neg (by omega)] at he
      exact ⟨k + 1, by rw [w64_succ h0 (by omega)], ⟨hd2.trans hd3, by omega, by omega, by rw [show (k + 1).toNat = k.toNat + 1 by omega]; exact he⟩, by omega⟩
  · rw [spec_l2Before.A4_0_s]
    refine ⟨?_, hd2⟩
    congr 2
    rw [hc, he, List.drop_eq_nil_of_le (by omega), List.drop_eq_nil_of_le (by omega)]; rfl

/-! ### avoids -/
theorem c_avoids {w : World} {l p : Sl} {LL : List (List Int)} {P : List Int} (hl : RowSS w l LL) (hp : RowI w p P) (hP : P.length < 2^37) (hn : LL.length < 2^38) (hq : ∀ q ∈ LL, q.length < 2^37) :
    Calls PP F.impl_avoids #[l.v, p.v] w fun e w' => e = .returned (.bool (avoidsV LL P)) ∧ Below w.heap.size w w' := by
  refine impl_avoids.calls l p ?_
  rw [impl_avoids.E_s]
  refine new_one ?_
  intro ad w1 had hb1
  refine (c_ContainsFuncS (φ := fun q => hasP P q) (hl.grow hb1) hn (fun q hqm r hr => ?_)).mono ?_
  · intro w2 hb2
    refine ⟨_, _, _, rfl, by kernel_rfl, ?_⟩
    show Calls PP F.impl_avoidsL1 #[r.v, .pointer (some ad)] w2 _
    refine impl_avoidsL1.calls r ad ?_
    rw [impl_avoidsL1.E_s]
    refine load_sl (cell_grow had hb2) ?_
    refine (c_has_nil ((hp.grow hb1).grow hb2) (hr.grow hb2) hP (hq q hqm)).mono ?_
    rintro e w3 ⟨rfl, hb3⟩
    exact ⟨_, rfl, rfl, hb3⟩
  · rintro e w2 ⟨rfl, hb2⟩
    exact ⟨_, rfl, rfl, hb1.trans (hb2.mono hb1.size)⟩
theorem any_take_succ {LL : List (List Int)} {φ : List Int → Bool} {k : Nat} (hk : k < LL.length) : (LL.take (k + 1)).any φ = ((LL.take k).any φ || φ (LL.getD k [])) := by
  rw [List.take_succ_eq_append_getElem hk, List.any_append, getD_SS hk]; simp
theorem c_l12Avoids {w : World} {l p : Sl} {LL : List (List Int)} {P : List Int} (hl : RowSS w l LL) (hp : RowI w p P) (hP : P.length ≤ 8) (hn : LL.length < 2^38) (hq : ∀ q ∈ LL, q.length ≤ 8) :
    Calls PP F.spec_l12Avoids #[l.v, p.v] w fun e w' => e = .returned (.bool (avoidsV LL P)) ∧ Below w.heap.size w w' := by
  have hln := hl.n
  refine spec_l12Avoids.calls l p ?_
  rw [spec_l12Avoids.E_s]
  refine spec_l12Avoids.L2_rule _ _ _ _ _ (I := fun k w' => 0 ≤ k ∧ k ≤ LL.length ∧ (LL.take k.toNat).any (fun q => hasP P q) = false ∧ Below w.heap.size w w') (μ := fun k _ => (LL.length - k).toNat) ⟨by omega, by omega, by simp, Below.refl _ _⟩ ?_
  rintro k w' ⟨h0, hk, hall, hb⟩
  rw [spec_l12Avoids.B2_s, hln]
  refine bif_dec (fun h3 => ?_) (fun h3 => ?_)
  · have hlt : k.toNat < LL.length := by omega
    refine RowSS.get (hl.grow hb) h0 (by omega) fun r hr => ?_
    have hmem : LL.getD k.toNat [] ∈ LL := by rw [getD_SS hlt]; exact List.getElem_mem hlt
    refine (c_l7Has (hp.grow hb) hr hP (hq _ hmem)).mono ?_
    rintro e w2 ⟨rfl, hb2⟩
    refine ⟨_, rfl, ?_⟩
    have hb12 := hb.trans (hb2.mono hb.size)
    refine bif_intro (fun h4 => ?_) (fun h4 => ?_)
    · rw [spec_l12Avoids.R2_s]
      refine ⟨?_, hb12⟩
      have : LL.any (fun q => hasP P q) = true := List.any_eq_true.2 ⟨_, hmem, h4⟩
      rw [avoidsV, this]; rfl
    · refine ⟨k + 1, by rw [w64_succ h0 (by omega)], ⟨by omega, by omega, ?_, hb12⟩, by omega⟩
      rw [show (k + 1).toNat = k.toNat + 1 by omega, any_take_succ hlt, hall, h4]; rfl
  · rw [spec_l12Avoids.A2_0_s]
    rw [show k.toNat = LL.length by omega, List.take_length] at hall
    exact ⟨by rw [avoidsV, hall]; rfl, hb⟩

/-! ### IsBasis -/
open Classical in
noncomputable def IsBasisV (LL : List (List Int)) : Bool := decide (BasisOk LL)
open Classical in
theorem c_implIsBasis {w : World} {a : Sl} {LL : List (List Int)} (ha : RowSS w a LL) (hL : LL.length < 2^38) (ht : tot LL < 2^37) :
    Calls PP F.impl_IsBasis #[a.v] w fun e w' => e = .returned (.bool (IsBasisV LL)) ∧ Below w.heap.size w w' := by
  have han := ha.n
  have no : ∀ w', Below w.heap.size w w' → ¬ BasisOk LL → (Ending.returned (.bool false)) = .returned (.bool (IsBasisV LL)) ∧ Below w.heap.size w w' := fun w' hb hn => ⟨by simp [IsBasisV, hn], hb⟩
  refine impl_IsBasis.calls a ?_
  rw [impl_IsBasis.E_s, han]
  refine bif_dec (fun h => no w (Below.refl _ _) fun hh => by have := hh.1; omega) (fun h8 => ?_)
  refine impl_IsBasis.L4_rule _ _ _ _ _ _ (I := fun k w' => 0 ≤ k ∧ k ≤ LL.length ∧ (∀ j, j < k.toNat → BasisAt LL j) ∧ Below w.heap.size w w') (μ := fun k _ => (LL.length - k).toNat) ⟨by omega, by omega, fun j hj => by simp at hj, Below.refl _ _⟩ ?_
  rintro k w' ⟨h0, hk, hall, hb⟩
  rw [impl_IsBasis.B4_s]
  refine bif_dec (fun h3 => ?_) (fun h3 => ?_)
  · have hlt : k.toNat < LL.length := by omega
    have hmem : ∀ j, j < LL.length → LL.getD j [] ∈ LL := fun j hj => by rw [getD_SS hj]; exact List.getElem_mem hj
    have hlen : ∀ j, j < LL.length → (LL.getD j []).length < 2^37 := fun j hj => by have := len_le_tot (hmem j hj); omega
    refine RowSS.getB ha hb h0 (by omega) fun r hr => ?_
    have hrn : r.n = (LL.getD k.toNat []).length := by have := hr.n; simpa using this
    have hl1 := hlen k.toNat hlt
    refine (c_implIsPerm (hr.grow hb) (by omega)).mono ?_
    rintro e w2 ⟨rfl, hb2⟩
    refine ⟨_, rfl, ?_⟩
    have hb12 := hb.trans (hb2.mono hb.size)
    have bad : ∀ w3, Below w.heap.size w w3 → ¬ BasisAt LL k.toNat → impl_IsBasis.q1 std (fun e w' => e = .returned (.bool (IsBasisV LL)) ∧ Below w.heap.size w w') .ret [(2, .bool false)] w3 := by
      intro w3 hb3 hn
      rw [impl_IsBasis.R4_s]
      exact no w3 hb3 fun hh => hn (hh.2 k.toNat hlt)
    refine bif_intro (fun h4 => ?_) (fun h4 => ?_)
    · have h4 : ¬ IsP (LL.getD k.toNat []) := by simpa using h4
      exact bad w2 hb12 fun hh => h4 hh.perm
    have h4 : IsP (LL.getD k.toNat []) := by simpa using h4
    rw [hrn]
    refine bif_intro (fun h5 => ?_) (fun h5 => ?_)
    · have h5 : LL.getD k.toNat [] = [] := by simpa using h5
      exact bad w2 hb12 fun hh => hh.ne h5
    have h5 : LL.getD k.toNat [] ≠ [] := by simpa using h5
    -- the loop over the earlier ones
    have inner : ∀ w3, Below w.heap.size w w3 → (0 < k.toNat → cmpP (LL.getD (k.toNat - 1) []) (LL.getD k.toNat []) < 0) → cutK 1 a none (some k) fun (s12 : Sl) => impl_IsBasis.L9 std a r a (LL.length : Int) k s12 (s12.n : Int) 0 w3
        (impl_IsBasis.q13 std (fun e2 w2 => ∃ t12_n, e2 = impl_IsBasis.emb4 a a (LL.length : Int) t12_n ∧ (0 ≤ t12_n ∧ t12_n ≤ LL.length ∧ (∀ j, j < t12_n.toNat → BasisAt LL j) ∧ Below w.heap.size w w2) ∧ (LL.length - t12_n).toNat < (LL.length - k).toNat)
        (impl_IsBasis.q1 std fun e w' => e = .returned (.bool (IsBasisV LL)) ∧ Below w.heap.size w w')) := by
      intro w3 hb3 hord
      obtain ⟨m, rfl⟩ : ∃ m : Nat, k = m := ⟨k.toNat, by omega⟩
      simp only [Int.toNat_natCast] at *
      refine RowSS.take ha (i := m) (by omega) fun s hs => ?_
      have hsn := hs.n
      rw [List.length_take, Nat.min_eq_left (by omega)] at hsn
      rw [hsn]
      refine impl_IsBasis.L9_rule _ _ _ _ _ _ _ _ _ _ (I := fun i w4 => 0 ≤ i ∧ i ≤ m ∧ (∀ j, j < i.toNat → hasP (LL.getD m []) (LL.getD j []) = false) ∧ Below w.heap.size w w4) (μ := fun i _ => (m - i).toNat) ⟨by omega, by omega, fun j hj => by simp at hj, hb3⟩ ?_
      rintro i w4 ⟨hi0, hi, hall2, hb4⟩
      rw [impl_IsBasis.B9_s]
      refine bif_dec (fun h6 => ?_) (fun h6 => ?_)
      · refine RowSS.get (hs.grow hb4) hi0 (by rw [List.length_take]; omega) fun t htr => ?_
        have e6 : (LL.take m).getD i.toNat [] = LL.getD i.toNat [] := by
          simp only [List.getD_eq_getElem?_getD, List.getElem?_take]; rw [if_pos (by omega)]
        rw [e6] at htr
        refine (c_has_nil (hr.grow hb4) htr hl1 (hlen _ (by omega))).mono ?_
        rintro e w5 ⟨rfl, hb5⟩
        refine ⟨_, rfl, ?_⟩
        have hb45 := hb4.trans (hb5.mono hb4.size)
        refine bif_intro (fun h7 => ?_) (fun h7 => ?_)
        · rw [impl_IsBasis.R9_s]
          exact bad w5 hb45 fun hh => by rw [hh.min i.toNat (by omega)] at h7; cases h7
        · refine ⟨i + 1, by rw [w64_succ hi0 (by omega)], ⟨by omega, by omega, fun j hj => ?_, hb45⟩, by omega⟩
          by_cases e : j = i.toNat
          · rw [e]; exact h7
          · exact hall2 j (by omega)
      · rw [impl_IsBasis.A9_2_s]
        refine ⟨(m : Int) + 1, by rw [w64_succ (by omega) (by omega)], ⟨by omega, by omega, fun j hj => ?_, hb4⟩, by omega⟩
        by_cases e : j = m
        · rw [e]; exact ⟨h4, h5, hord, fun i' hi' => hall2 i' (by omega)⟩
        · exact hall j (by omega)
    refine bif_dec (fun h6 => ?_) (fun h6 => ?_)
    · rw [w64_id (n := k - 1) (by omega) (by omega)]
      refine RowSS.getB ha hb12 (by omega) (by omega) fun r2 hr2 => ?_
      rw [show (k - 1).toNat = k.toNat - 1 by omega] at hr2
      have hl2 := hlen (k.toNat - 1) (by omega)
      refine (c_comparePerms (hr2.grow hb12) (hr.grow hb12) (by omega)).mono ?_
      rintro e w3 ⟨rfl, hb3⟩
      refine ⟨_, rfl, ?_⟩
      have hb13 := hb12.trans (hb3.mono hb12.size)
      refine bif_dec (fun h7 => bad w3 hb13 fun hh => by have := hh.ord (by omega); omega) (fun h7 => ?_)
      exact inner w3 hb13 fun _ => by omega
    · exact inner w2 hb12 fun h => by omega
  · rw [impl_IsBasis.A4_0_s]
    have : BasisOk LL := ⟨by omega, fun j hj => hall j (by omega)⟩
    exact ⟨by simp [IsBasisV, this], hb⟩
open Classical in
theorem c_specIsBasis {w : World} {a : Sl} {LL : List (List Int)} (ha : RowSS w a LL) (hL : LL.length < 2^38) (ht : tot LL < 2^37) :
    Calls PP F.spec_IsBasis #[a.v] w fun e w' => e = .returned (.bool (IsBasisV LL)) ∧ Below w.heap.size w w' := by
  have han := ha.n
  have no : ∀ w', Below w.heap.size w w' → ¬ BasisOk LL → (Ending.returned (.bool false)) = .returned (.bool (IsBasisV LL)) ∧ Below w.heap.size w w' := fun w' hb hn => ⟨by simp [IsBasisV, hn], hb⟩
  refine spec_IsBasis.calls a ?_
  rw [spec_IsBasis.E_s]
  refine spec_IsBasis.L2_rule _ _ _ _ (I := fun k w' => 0 ≤ k ∧ k ≤ LL.length ∧ (∀ j, j < k.toNat → BasisAt LL j) ∧ Below w.heap.size w w') (μ := fun k _ => (LL.length - k).toNat) ⟨by omega, by omega, fun j hj => by simp at hj, Below.refl _ _⟩ ?_
  rintro k w' ⟨h0, hk, hall, hb⟩
  rw [spec_IsBasis.B2_s, han]
  refine bif_dec (fun h3 => ?_) (fun h3 => ?_)
  · have hlt : k.toNat < LL.length := by omega
    have hmem : ∀ j, j < LL.length → LL.getD j [] ∈ LL := fun j hj => by rw [getD_SS hj]; exact List.getElem_mem hj
    have hlen : ∀ j, j < LL.length → (LL.getD j []).length < 2^37 := fun j hj => by have := len_le_tot (hmem j hj); omega
    have hl1 := hlen k.toNat hlt
    have haw := ha.grow hb
    have bad : ∀ w3, Below w.heap.size w w3 → ¬ BasisAt LL k.toNat → spec_IsBasis.q1 std (fun e w' => e = .returned (.bool (IsBasisV LL)) ∧ Below w.heap.size w w') .ret [(2, .bool false)] w3 := by
      intro w3 hb3 hn
      rw [spec_IsBasis.R2_s]
      exact no w3 hb3 fun hh => hn (hh.2 k.toNat hlt)
    refine RowSS.get haw h0 (by omega) fun r hr => ?_
    refine Quiet.qcall1 (s := .bool) (c_specIsPerm hr (by omega)) ?_
    refine bif_intro (fun h4 => ?_) (fun h4 => ?_)
    · have h4 : ¬ IsP (LL.getD k.toNat []) := by simpa using h4
      exact drew_intro fun w2 hd => bad w2 (hb.trans (hd.below _)) fun hh => h4 hh.perm
    have h4 : IsP (LL.getD k.toNat []) := by simpa using h4
    refine RowSS.get haw h0 (by omega) fun r1 hr1 => ?_
    have hrn : r1.n = (LL.getD k.toNat []).length := by have := hr1.n; simpa using this
    rw [hrn]
    refine bif_intro (fun h5 => ?_) (fun h5 => ?_)
    · have h5 : LL.getD k.toNat [] = [] := by simpa using h5
      exact drew_intro fun w2 hd => bad w2 (hb.trans (hd.below _)) fun hh => hh.ne h5
    have h5 : LL.getD k.toNat [] ≠ [] := by simpa using h5
    have inner : ∀ w3, Below w.heap.size w w3 → (0 < k.toNat → cmpP (LL.getD (k.toNat - 1) []) (LL.getD k.toNat []) < 0) → spec_IsBasis.L7 std a k 0 w3
        (spec_IsBasis.q17 std (fun e2 w2 => ∃ k_3_n, e2 = spec_IsBasis.emb2 a k_3_n ∧ (0 ≤ k_3_n ∧ k_3_n ≤ LL.length ∧ (∀ j, j < k_3_n.toNat → BasisAt LL j) ∧ Below w.heap.size w w2) ∧ (LL.length - k_3_n).toNat < (LL.length - k).toNat)
        (spec_IsBasis.q1 std fun e w' => e = .returned (.bool (IsBasisV LL)) ∧ Below w.heap.size w w')) := by
      intro w3 hb3 hord
      refine spec_IsBasis.L7_rule _ _ _ _ _ (I := fun i w4 => 0 ≤ i ∧ i ≤ k ∧ (∀ j, j < i.toNat → hasP (LL.getD k.toNat []) (LL.getD j []) = false) ∧ Below w.heap.size w w4) (μ := fun i _ => (k - i).toNat) ⟨by omega, by omega, fun j hj => by simp at hj, hb3⟩ ?_
      rintro i w4 ⟨hi0, hi, hall2, hb4⟩
      rw [spec_IsBasis.B7_s]
      refine bif_dec (fun h6 => ?_) (fun h6 => ?_)
      · refine drew_intro fun w5 hd5 => ?_
        have hb5 := hb4.trans (hd5.below _)
        have ha5 := ha.grow hb5
        have hPi : IsP (LL.getD i.toNat []) := (hall i.toNat (by omega)).perm
        refine RowSS.place ha5 h0 (by omega) fun a22 r2 hc2 hr2 => ?_
        refine RowSS.place ha5 hi0 (by omega) fun a23 r3 hc3 hr3 => ?_
        have fin : call1 .bool PP F.spec_l7Has #[Sl.v r2, Sl.v r3] w5 fun (ρ : Bool) w6 => spec_IsBasis.J10 std a k i ρ w6 (fun e2 w2 => ∃ i_4_n, e2 = spec_IsBasis.emb7 a k i_4_n ∧ (0 ≤ i_4_n ∧ i_4_n ≤ k ∧ (∀ j, j < i_4_n.toNat → hasP (LL.getD k.toNat []) (LL.getD j []) = false) ∧ Below w.heap.size w w2) ∧ (k - i_4_n).toNat < (k - i).toNat)
            (spec_IsBasis.q17 std (fun e2 w2 => ∃ k_3_n, e2 = spec_IsBasis.emb2 a k_3_n ∧ (0 ≤ k_3_n ∧ k_3_n ≤ LL.length ∧ (∀ j, j < k_3_n.toNat → BasisAt LL j) ∧ Below w.heap.size w w2) ∧ (LL.length - k_3_n).toNat < (LL.length - k).toNat)
            (spec_IsBasis.q1 std fun e w' => e = .returned (.bool (IsBasisV LL)) ∧ Below w.heap.size w w')) := by
          refine (c_l7Has hr2 hr3 h4.1 hPi.1).mono ?_
          rintro e w6 ⟨rfl, hb6⟩
          refine ⟨_, rfl, ?_⟩
          have hb56 := hb5.trans (hb6.mono hb5.size)
          show spec_IsBasis.J10 std _ _ _ _ _ _ _
          rw [spec_IsBasis.J10_s]
          refine bif_intro (fun h7 => ?_) (fun h7 => ?_)
          · rw [spec_IsBasis.R7_s]
            exact bad w6 hb56 fun hh => by rw [hh.min i.toNat (by omega)] at h7; cases h7
          · refine ⟨i + 1, by rw [w64_succ hi0 (by omega)], ⟨by omega, by omega, fun j hj => ?_, hb56⟩, by omega⟩
            by_cases e : j = i.toNat
            · rw [e]; exact h7
            · exact hall2 j (by omega)
        exact ⟨load_sl hc2 (load_sl hc3 fin), load_sl hc3 (load_sl hc2 fin)⟩
      · rw [spec_IsBasis.A7_2_s]
        refine ⟨k + 1, by rw [w64_succ (by omega) (by omega)], ⟨by omega, by omega, fun j hj => ?_, hb4⟩, by omega⟩
        by_cases e : j = k.toNat
        · rw [e]; exact ⟨h4, h5, hord, fun i' hi' => hall2 i' (by omega)⟩
        · exact hall j (by omega)
    refine bif_dec (fun h6 => ?_) (fun h6 => ?_)
    · rw [w64_id (n := k - 1) (by omega) (by omega)]
      refine RowSS.get haw (by omega) (by omega) fun r2 hr2 => ?_
      rw [show (k - 1).toNat = k.toNat - 1 by omega] at hr2
      refine RowSS.get haw h0 (by omega) fun r3 hr3 => ?_
      have hl2 := hlen (k.toNat - 1) (by omega)
      refine Quiet.qcall1 (s := .bool) (c_l2Before hr2 hr3 (by omega)) ?_
      refine drew_intro fun w3 hd3 => ?_
      have hb3 := hb.trans (hd3.below _)
      refine bif_intro (fun h7 => ?_) (fun h7 => ?_)
      · exact bad w3 hb3 fun hh => absurd (hh.ord (by omega)) (by simpa using h7)
      · exact inner w3 hb3 fun _ => by simpa using h7
    · exact drew_intro fun w3 hd3 => inner w3 (hb.trans (hd3.below _)) fun h => by omega
  · rw [spec_IsBasis.A2_0_s]
    have hiff : BasisOk LL ↔ (LL.length : Int) ≤ 8 := ⟨fun h => by have := h.1; omega, fun h => ⟨by omega, fun j hj => hall j (by omega)⟩⟩
    refine ⟨?_, hb⟩
    congr 2
    rw [IsBasisV, han]
    by_cases h9 : (LL.length : Int) ≤ 8
    · rw [decide_eq_true h9, decide_eq_true (hiff.2 h9)]
    · rw [decide_eq_false h9, decide_eq_false (fun h => h9 (hiff.1 h))]
end Go.Proofs.Ytmhgjfahgemblaa
