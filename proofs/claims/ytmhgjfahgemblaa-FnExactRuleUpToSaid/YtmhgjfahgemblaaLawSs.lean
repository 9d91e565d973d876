/- The laws' helpers over rows of rows: comparison, marks. -/
import Derived.Test.YtmhgjfahgemblaaCodeB
import Derived.Test.YtmhgjfahgemblaaLaw2
import Derived.Test.YtmhgjfahgemblaaSs
namespace Go.Proofs.Ytmhgjfahgemblaa
open Go Go.RowKit
set_option maxRecDepth 100000

theorem c_eqIntSS {w : World} {a b : Sl} {LL MM : List (List Int)} (ha : RowSS w a LL) (hb : RowSS w b MM) (hL : LL.length < 2^39) (hr : tot LL < 2^39) : Quiet F.laws_eqIntSS #[a.v, b.v] w (.bool (decide (LL = MM))) := by
  intro w1 hd
  have han := ha.n
  have hbn := hb.n
  refine laws_eqIntSS.calls a b ?_
  rw [laws_eqIntSS.E_s]
  refine bif_intro (fun h => ?_) (fun h => ?_)
  · have : LL.length ≠ MM.length := by simp at h; omega
    have : LL ≠ MM := fun e => this (by rw [e])
    exact ⟨by simp [this], Drew.refl _⟩
  have hlen : LL.length = MM.length := by simp at h; omega
  refine laws_eqIntSS.L4_rule _ _ _ _ _ (I := fun i w' => 0 ≤ i ∧ i ≤ LL.length ∧ (∀ k, k < i.toNat → LL[k]? = MM[k]?) ∧ Drew w1 w') (μ := fun i _ => (LL.length - i).toNat)
    ⟨by omega, by omega, fun k hk => by simp at hk, Drew.refl _⟩ ?_
  rintro i w' ⟨h0, hi, hall, hd2⟩
  have hh : w'.heap = w.heap := (hd.trans hd2).heap'
  rw [laws_eqIntSS.B4_s]
  refine bif_dec (fun h3 => ?_) (fun h3 => ?_)
  · have hlt : i.toNat < LL.length := by omega
    have hlt2 : i.toNat < MM.length := by omega
    refine RowSS.get (ha.heap hh) h0 (by omega) fun r hr1 => ?_
    refine RowSS.get (hb.heap hh) h0 (by omega) fun t ht1 => ?_
    rw [getD_SS hlt] at hr1
    rw [getD_SS hlt2] at ht1
    have h40 := len_le_tot (List.getElem_mem hlt)
    refine Quiet.qcall1 (s := .bool) (c_eqIntS hr1 ht1 (by omega)) ?_
    refine drew_intro fun w3 hd3 => ?_
    refine bif_intro (fun h4 => ?_) (fun h4 => ?_)
    · have : LL ≠ MM := fun e => by subst e; simp at h4
      rw [laws_eqIntSS.R4_s]
      exact ⟨by simp [this], hd2.trans hd3⟩
    · have h4 : LL[i.toNat] = MM[i.toNat] := by simpa using h4
      refine ⟨i + 1, by rw [w64_succ h0 (by omega)], ⟨by omega, by omega, fun k hk => ?_, hd2.trans hd3⟩, by omega⟩
      by_cases hk2 : k < i.toNat
      · exact hall k hk2
      · have : k = i.toNat := by omega
        subst this
        rw [List.getElem?_eq_getElem hlt, List.getElem?_eq_getElem hlt2, h4]
  · rw [laws_eqIntSS.A4_0_s]
    have : LL = MM := by
      apply List.ext_getElem?
      intro k
      by_cases hk : k < LL.length
      · exact hall k (by omega)
      · rw [List.getElem?_eq_none (by omega), List.getElem?_eq_none (by omega)]
    exact ⟨by simp [this], hd2⟩

def marksSS (k : Int) : List (List Int) → List (List Int)
  | [] => []
  | L :: r => marks k L.length :: marksSS (k + L.length) r
theorem marksSS_length : ∀ (LL : List (List Int)) (k : Int), (marksSS k LL).length = LL.length
  | [], _ => rfl
  | L :: r, k => by simp [marksSS, marksSS_length r]
theorem marksSS_append : ∀ (A B : List (List Int)) (k : Int), marksSS k (A ++ B) = marksSS k A ++ marksSS (k + tot A) B
  | [], B, k => by simp [marksSS, tot_nil]
  | L :: r, B, k => by
    simp only [List.cons_append, marksSS, marksSS_append r B, tot_cons, List.cons.injEq, true_and]
    congr 2; omega
theorem marksSS_step {LL : List (List Int)} (k : Int) {i : Nat} (h : i < LL.length) :
    (marksSS k (LL.take i) ++ LL.drop i).set i (marks (k + tot (LL.take i)) (LL.getD i []).length) = marksSS k (LL.take (i + 1)) ++ LL.drop (i + 1) := by
  have h1 : LL.drop i = LL[i] :: LL.drop (i + 1) := by rw [List.drop_eq_getElem_cons h]
  have h2 : (marksSS k (LL.take i)).length = i := by rw [marksSS_length]; simp; omega
  rw [h1, List.set_append_right _ _ (by omega), h2, Nat.sub_self, List.set_cons_zero, List.take_succ_eq_append_getElem h, marksSS_append, List.append_assoc, getD_SS h]
  rfl
theorem marksSS_at {LL : List (List Int)} (k : Int) {i : Nat} (h : i < LL.length) : (marksSS k (LL.take i) ++ LL.drop i).getD i [] = LL.getD i [] := by
  have h2 : (marksSS k (LL.take i)).length = i := by rw [marksSS_length]; simp; omega
  rw [List.getD_eq_getElem?_getD, List.getElem?_append_right (by omega), h2, Nat.sub_self, List.getElem?_drop, List.getD_eq_getElem?_getD]
  simp
theorem marksSS_getD : ∀ {LL : List (List Int)} (k : Int) {i : Nat}, i < LL.length → (marksSS k LL).getD i [] = marks (k + tot (LL.take i)) (LL.getD i []).length
  | [], k, i, h => by simp at h
  | L :: r, k, 0, _ => by simp [marksSS, tot_nil]
  | L :: r, k, i + 1, h => by
    have := marksSS_getD (LL := r) (k + L.length) (i := i) (by simpa using h)
    simp only [List.getD_eq_getElem?_getD, marksSS, List.getElem?_cons_succ, List.take_succ_cons, tot_cons] at this ⊢
    rw [this]; congr 1; omega

theorem c_markIntSS {w : World} {B : Nat} {a : Sl} {rs : List Sl} {LL : List (List Int)} (ha : OwnRows w B a rs LL) (hL : LL.length < 2^38) (ht : tot LL < 2^38) {k : Int} (hk0 : 0 ≤ k) (hk : k < 2^39) :
    Calls PP F.laws_markIntSS #[a.v, vI k] w fun e w' => e = .returned (vI (k + tot LL)) ∧ OwnRows w' B a rs (marksSS k LL) ∧ Keeps (fun g => ∃ r ∈ rs, r.blk = some g) w w' ∧ w'.heap.size = w.heap.size := by
  have han := ha.n
  refine laws_markIntSS.calls a k ?_
  rw [laws_markIntSS.E_s]
  refine laws_markIntSS.L2_rule _ _ _ _ _ (I := fun m i w' => 0 ≤ i ∧ i ≤ LL.length ∧ m = k + tot (LL.take i.toNat) ∧ OwnRows w' B a rs (marksSS k (LL.take i.toNat) ++ LL.drop i.toNat) ∧ Keeps (fun g => ∃ r ∈ rs, r.blk = some g) w w' ∧ w'.heap.size = w.heap.size) (μ := fun _ i _ => (LL.length - i).toNat)
    ⟨by omega, by omega, by simp [tot_nil], by simpa [marksSS] using ha, Keeps.refl _ _, rfl⟩ ?_
  rintro m i w' ⟨h0, hi, hm, ho, hg, hsz⟩
  rw [laws_markIntSS.B2_s]
  refine bif_dec (fun h3 => ?_) (fun h3 => ?_)
  · have hlt : i.toNat < LL.length := by omega
    refine OwnRows.load ho h0 (by simp [marksSS_length]; omega) fun r hr hor => ?_
    rw [marksSS_at k hlt] at hor
    have h4 := tot_take_succ hlt
    have h5 := tot_take_le LL (i.toNat + 1)
    refine (c_markIntS hor (by omega) (k := m) (by omega) (by omega)).mono ?_
    rintro e w2 ⟨rfl, ho2, hg2, hs2⟩
    refine ⟨_, rfl, ?_⟩
    refine ⟨m + (LL.getD i.toNat []).length, i + 1, by rw [w64_succ h0 (by omega)], ⟨by omega, by omega, ?_, ?_, hg.trans ((keeps_grown hg2).mono fun g e => ⟨r, List.mem_of_getElem? hr, e⟩), by omega⟩, by omega⟩
    · rw [show (i + 1).toNat = i.toNat + 1 by omega, h4]; omega
    · rw [show (i + 1).toNat = i.toNat + 1 by omega, ← marksSS_step k hlt, ← hm]
      exact ho.inside hr ho2 hg2
  · rw [laws_markIntSS.A2_0_s]
    have e : i.toNat = LL.length := by omega
    rw [e] at ho hm
    rw [List.take_length] at ho hm
    exact ⟨by rw [hm], by simpa using ho, hg, hsz⟩

theorem c_heldIntSS {w : World} {a : Sl} {LL : List (List Int)} {k : Int} (ha : RowSS w a (marksSS k LL)) (hL : LL.length < 2^38) (ht : tot LL < 2^38) (hk0 : 0 ≤ k) (hk : k < 2^39) :
    Quiet F.laws_heldIntSS #[a.v, vI k] w (vI (k + tot LL)) := by
  intro w1 hd
  have han := ha.n
  rw [marksSS_length] at han
  refine laws_heldIntSS.calls a k ?_
  rw [laws_heldIntSS.E_s]
  refine laws_heldIntSS.L2_rule _ _ _ _ _ (I := fun m i w' => Drew w1 w' ∧ 0 ≤ i ∧ i ≤ LL.length ∧ m = k + tot (LL.take i.toNat)) (μ := fun _ i _ => (LL.length - i).toNat) ⟨Drew.refl _, by omega, by omega, by simp [tot_nil]⟩ ?_
  rintro m i w' ⟨hd2, h0, hi, hm⟩
  rw [laws_heldIntSS.B2_s]
  refine bif_dec (fun h3 => ?_) (fun h3 => ?_)
  · have hlt : i.toNat < LL.length := by omega
    refine RowSS.get (ha.heap (hd.trans hd2).heap') h0 (by rw [marksSS_length]; omega) fun r hr => ?_
    rw [marksSS_getD k hlt, ← hm] at hr
    have h4 := tot_take_succ hlt
    have h5 := tot_take_le LL (i.toNat + 1)
    refine Quiet.call1 (s := .int .i64) (c_heldIntS hr (by omega) (by omega) (by omega)) ?_
    intro w3 hd3
    refine bif_dec (fun h6 => by omega) (fun h6 => ?_)
    refine ⟨_, i + 1, by rw [w64_succ h0 (by omega)], ⟨hd2.trans hd3, by omega, by omega, ?_⟩, by omega⟩
    rw [show (i + 1).toNat = i.toNat + 1 by omega, h4]; omega
  · rw [laws_heldIntSS.A2_0_s]
    have e : i.toNat = LL.length := by omega
    rw [e, List.take_length] at hm
    exact ⟨by rw [hm], hd2⟩
end Go.Proofs.Ytmhgjfahgemblaa
