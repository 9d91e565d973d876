/- IsTwicePattern: both texts, and the law. -/
import Derived.Test.YtmhgjfahgemblaaCodeTw
import Derived.Test.YtmhgjfahgemblaaMap4
import Derived.Test.YtmhgjfahgemblaaTwMath
import Derived.Test.YtmhgjfahgemblaaPlc
import Derived.Test.YtmhgjfahgemblaaFind
import Derived.Test.YtmhgjfahgemblaaLaw2
namespace Go.Proofs.Ytmhgjfahgemblaa
open Go Go.RowKit
set_option maxRecDepth 100000

theorem lit4 {w : World} {B : Nat} (hB : B ≤ w.heap.size) (a b c d : Int) {K : Sl → World → Prop} (h : ∀ s w', OwnI w' B s [a, b, c, d] → Below w.heap.size w w' → K s w') : sem1 .sl PP (Instr.buildSlice T_Sint 4 #[(0, vI a), (1, vI b), (2, vI c), (3, vI d)]) w K := by
  obtain ⟨i, hu, hi, hz, hs, hb, hzc⟩ := oneInt
  have hrun : (Instr.buildSlice T_Sint 4 #[(0, vI a), (1, vI b), (2, vI c), (3, vI d)]).run PP w = .ok (.slice (some ⟨w.heap.size, 0, none⟩) 4 4) (w.alloc (.cells #[vI a, vI b, vI c, vI d] T_int)) := by
    refine run_buildSlice w T_Sint T_int 4 _ #[vI a, vI b, vI c, vI d] i (vI 0) hu hi hz (by rw [hs]; decide) (by rw [hs]; decide) ?_
    rw [hs]
    simp [Instr.fill, Array.range, Value.cells]
    rfl
  exact ⟨⟨some ⟨w.heap.size, 0, none⟩, 4, 4⟩, _, hrun, h _ _ ⟨rfl, Nat.le_refl _, by simp only [maxLen]; omega, .inr ⟨_, _, rfl, hB, heap_alloc_new w _, rfl, rfl⟩⟩ (below_of_grow (World.grownBy_alloc w _ none))⟩
theorem lit5 {w : World} {B : Nat} (hB : B ≤ w.heap.size) (a b c d e : Int) {K : Sl → World → Prop} (h : ∀ s w', OwnI w' B s [a, b, c, d, e] → Below w.heap.size w w' → K s w') : sem1 .sl PP (Instr.buildSlice T_Sint 5 #[(0, vI a), (1, vI b), (2, vI c), (3, vI d), (4, vI e)]) w K := by
  obtain ⟨i, hu, hi, hz, hs, hb, hzc⟩ := oneInt
  have hrun : (Instr.buildSlice T_Sint 5 #[(0, vI a), (1, vI b), (2, vI c), (3, vI d), (4, vI e)]).run PP w = .ok (.slice (some ⟨w.heap.size, 0, none⟩) 5 5) (w.alloc (.cells #[vI a, vI b, vI c, vI d, vI e] T_int)) := by
    refine run_buildSlice w T_Sint T_int 5 _ #[vI a, vI b, vI c, vI d, vI e] i (vI 0) hu hi hz (by rw [hs]; decide) (by rw [hs]; decide) ?_
    rw [hs]
    simp [Instr.fill, Array.range, Value.cells]
    rfl
  exact ⟨⟨some ⟨w.heap.size, 0, none⟩, 5, 5⟩, _, hrun, h _ _ ⟨rfl, Nat.le_refl _, by simp only [maxLen]; omega, .inr ⟨_, _, rfl, hB, heap_alloc_new w _, rfl, rfl⟩⟩ (below_of_grow (World.grownBy_alloc w _ none))⟩
def Twice (P : List Int) : Prop := IsP P ∧ hasP P [2, 3, 4, 1] = false ∧ ∀ a b c d, Occ4 P a b c d → ∃ e, a < e ∧ e < b ∧ at1 P c < at1 P e
open Classical in
noncomputable def IsTwicePatternV (P : List Int) : Bool := decide (Twice P)
theorem isP_ne {P : List Int} (h : IsP P) : ∀ x y : Int, 1 ≤ x → x < y → y ≤ P.length → at1 P x ≠ at1 P y := fun x y h1 h2 h3 => (h.2 (y - 1).toNat (by omega)).2.2 (x - 1).toNat (by omega)
theorem c_specIsTwicePattern {w : World} {p : Sl} {P : List Int} (hp : RowI w p P) (hL : P.length < 2^38) :
    Calls PP F.spec_IsTwicePattern #[p.v] w fun e w' => e = .returned (.bool (IsTwicePatternV P)) ∧ Below w.heap.size w w' := by
  classical
  have no : ∀ w', Below w.heap.size w w' → ¬ Twice P → (Ending.returned (.bool false)) = .returned (.bool (IsTwicePatternV P)) ∧ Below w.heap.size w w' := fun w' hb hn => ⟨by rw [IsTwicePatternV, decide_eq_false hn], hb⟩
  refine spec_IsTwicePattern.calls p ?_
  rw [spec_IsTwicePattern.E_s]
  refine Quiet.call1 (s := .bool) (c_specIsPerm hp hL) ?_
  intro w1 hd1
  have hb1 := hd1.below w.heap.size
  refine bif_intro (fun h => ?_) (fun h => ?_)
  · exact no w1 hb1 fun hh => by simp [hh.1] at h
  have hP : IsP P := by simpa using h
  have h8 := hP.1
  refine lit4 (B := w1.heap.size) (Nat.le_refl _) 2 3 4 1 ?_
  intro q w2 hq hb2
  have hb02 := hb1.trans (hb2.mono hb1.size)
  refine (c_l7Has (hp.grow hb02) hq.row h8 (by simp)).mono ?_
  rintro e w3 ⟨rfl, hb3⟩
  refine ⟨_, rfl, ?_⟩
  have hb03 := hb02.trans (hb3.mono hb02.size)
  refine bif_intro (fun h => ?_) (fun h => ?_)
  · exact no w3 hb03 fun hh => by rw [hh.2.1] at h; cases h
  refine lit4 (B := w3.heap.size) (Nat.le_refl _) 3 2 4 1 ?_
  intro q2 w4 hq2 hb4
  have hb04 := hb03.trans (hb4.mono hb03.size)
  refine lit0 oneInt (B := w4.heap.size) (Nat.le_refl _) ?_
  intro hd w5 hhd hg5 hdc
  have hb5 := below_of_grow hg5
  refine lit0 oneSint (B := w4.heap.size) hb5.size ?_
  intro o w6 ho hg6 hoc
  have hb6 := below_of_grow hg6
  have hb46 := hb5.trans (hb6.mono hb5.size)
  have hb06 := hb04.trans (hb46.mono hb04.size)
  refine (c_l7Find (hp.grow hb04) hq2.row h8 (by simp) 4 w6 hd o [] [] [] hb46 (OwnRows.nil ho) (by simpa [OwnI] using Own.grow hhd hb6) (fun t ht => by cases ht) (by simp) (Places.nil P) (by simp)).mono ?_
  rintro e w7 ⟨s, rfl, hs, hg7, hn7⟩
  refine ⟨s, rfl, ?_⟩
  have hb7 : Below w.heap.size w w7 := hb06.grown hg7 hb06.size (fun g hg => by simp [Sl.blk, hoc] at hg)
  rw [List.nil_append] at hs
  have hsr := hs.row
  have hsn := hsr.n
  have hmem := fun l => mem_find4 (P := P) (l := l) (isP_ne hP)
  refine spec_IsTwicePattern.L5_rule _ _ _ _ _ (I := fun k w' => 0 ≤ k ∧ k ≤ (occN P [3, 2, 4, 1] 4 []).length ∧ Drew w7 w' ∧ ∀ a b c d, (∃ j, j < k.toNat ∧ (occN P [3, 2, 4, 1] 4 [])[j]? = some [a, b, c, d]) → ∃ e, a < e ∧ e < b ∧ at1 P c < at1 P e) (μ := fun k _ => ((occN P [3, 2, 4, 1] 4 []).length - k).toNat)
    ⟨by omega, by omega, Drew.refl _, fun a b c d ⟨j, hj, _⟩ => by simp at hj⟩ ?_
  rintro k w8 ⟨hk0, hk, hd8, hall⟩
  have hh8 := hd8.heap'
  have hb8 : Below w.heap.size w w8 := hb7.trans (hd8.below _)
  rw [spec_IsTwicePattern.B5_s, hsn]
  refine bif_dec (fun h3 => ?_) (fun h3 => ?_)
  · have hlt : k.toNat < (occN P [3, 2, 4, 1] 4 []).length := by omega
    refine RowSS.get (hsr.heap hh8) hk0 (by omega) fun x hx => ?_
    rw [getD_SS hlt] at hx
    obtain ⟨a, b, c, d, hl, hO⟩ := (hmem _).1 (List.getElem_mem hlt)
    obtain ⟨o1, o2, o3, o4, o5, o6, o7, o8⟩ := id hO
    rw [hl] at hx
    refine RowI.get hx (i := 0) (by omega) (by simp) ?_
    have ea : ([a, b, c, d] : List Int).getD (0 : Int).toNat 0 = a := rfl
    rw [ea, w64_id (n := a + 1) (by omega) (by omega)]
    refine spec_IsTwicePattern.L10_rule _ _ _ _ _ _ _ _ (I := fun found i w' => Drew w8 w' ∧ a + 1 ≤ i ∧ i ≤ b ∧ (found = true ↔ ∃ e, a < e ∧ e < i ∧ at1 P c < at1 P e)) (μ := fun _ i _ => (b - i).toNat) ⟨Drew.refl _, by omega, by omega, by simp; intro e h1 h2; omega⟩ ?_
    rintro found i w9 ⟨hd9, hi1, hi2, hf⟩
    have hh9 : w9.heap = w7.heap := (hd8.trans hd9).heap'
    have hx9 : RowI w9 x [a, b, c, d] := hx.heap (by rw [hh9, hh8])
    have hp9 : RowI w9 p P := (hp.grow hb7).heap hh9
    rw [spec_IsTwicePattern.B10_s]
    refine RowI.get hx9 (i := 1) (by omega) (by simp) ?_
    have eb : ([a, b, c, d] : List Int).getD (1 : Int).toNat 0 = b := rfl
    rw [eb]
    refine bif_dec (fun h4 => ?_) (fun h4 => ?_)
    · refine bif_intro (fun h5 => ?_) (fun h5 => ?_)
      · refine drew_intro fun w10 hd10 => ?_
        refine ⟨true, i + 1, by rw [w64_id (by omega) (by omega)], ⟨hd9.trans hd10, by omega, by omega, ?_⟩, by omega⟩
        obtain ⟨e, e1, e2, e3⟩ := hf.1 h5
        exact ⟨fun _ => ⟨e, e1, by omega, e3⟩, fun _ => rfl⟩
      · rw [w64_id (n := i - 1) (by omega) (by omega)]
        refine RowI.get hp9 (by omega) (by omega) ?_
        refine RowI.get hx9 (i := 2) (by omega) (by simp) ?_
        have ec : ([a, b, c, d] : List Int).getD (2 : Int).toNat 0 = c := rfl
        rw [ec, w64_id (n := c - 1) (by omega) (by omega)]
        refine RowI.get hp9 (by omega) (by omega) ?_
        refine drew_intro fun w10 hd10 => ?_
        refine ⟨_, i + 1, by rw [w64_id (by omega) (by omega)], ⟨hd9.trans hd10, by omega, by omega, ?_⟩, by omega⟩
        rw [decide_eq_true_iff]
        constructor
        · intro h6; exact ⟨i, by omega, by omega, h6⟩
        · rintro ⟨e, e1, e2, e3⟩
          by_cases he : e = i
          · subst he; exact e3
          · exact absurd (hf.2 ⟨e, e1, by omega, e3⟩) (by rw [h5]; simp)
    · rw [spec_IsTwicePattern.A10_2_s]
      have hib : i = b := by omega
      subst hib
      have hb9 : Below w.heap.size w w9 := hb8.trans (hd9.below _)
      refine bif_intro (fun h5 => ?_) (fun h5 => ?_)
      · rw [spec_IsTwicePattern.R5_s]
        have hff : found = false := by simpa using h5
        refine no w9 hb9 fun hh => ?_
        have := hf.2 (hh.2.2 a i c d hO)
        rw [hff] at this; cases this
      · have hff : found = true := by simpa using h5
        refine ⟨k + 1, by rw [w64_succ hk0 (by have := occN_length (P := P) (Q := [3, 2, 4, 1]) 4 [] (Places.nil P); have := Nat.pow_le_pow_left h8 4; omega)], ⟨by omega, by omega, hd8.trans hd9, fun a' b' c' d' ⟨j, hj, hje⟩ => ?_⟩, by omega⟩
        by_cases e : j = k.toNat
        · subst e
          rw [List.getElem?_eq_getElem hlt, hl] at hje
          simp at hje
          obtain ⟨rfl, rfl, rfl, rfl⟩ := hje
          exact hf.1 hff
        · exact hall a' b' c' d' ⟨j, by omega, hje⟩
  · rw [spec_IsTwicePattern.A5_0_s]
    refine ⟨?_, hb8⟩
    rw [IsTwicePatternV, decide_eq_true]
    refine ⟨hP, by simpa using h, fun a b c d hO => ?_⟩
    obtain ⟨j, hj, hje⟩ := List.getElem_of_mem ((hmem [a, b, c, d]).2 ⟨a, b, c, d, rfl, hO⟩)
    exact hall a b c d ⟨j, by omega, by rw [List.getElem?_eq_getElem hj, hje]⟩
set_option maxHeartbeats 1000000 in
theorem c_implIsTwicePattern {w : World} {p : Sl} {P : List Int} (hp : RowI w p P) (hL : P.length < 2^38) :
    Calls PP F.impl_IsTwicePattern #[p.v] w fun e w' => e = .returned (.bool (IsTwicePatternV P)) ∧ Below w.heap.size w w' := by
  classical
  have no : ∀ w', Below w.heap.size w w' → ¬ Twice P → (Ending.returned (.bool false)) = .returned (.bool (IsTwicePatternV P)) ∧ Below w.heap.size w w' := fun w' hb hn => ⟨by rw [IsTwicePatternV, decide_eq_false hn], hb⟩
  refine impl_IsTwicePattern.calls p ?_
  rw [impl_IsTwicePattern.E_s]
  refine (c_implIsPerm hp hL).mono ?_
  rintro e w1 ⟨rfl, hb1⟩
  refine ⟨_, rfl, ?_⟩
  refine bif_intro (fun h => ?_) (fun h => ?_)
  · exact no w1 hb1 fun hh => by simp [hh.1] at h
  have hP : IsP P := by simpa using h
  have h8 := hP.1
  refine lit4 (B := w1.heap.size) (Nat.le_refl _) 2 3 4 1 ?_
  intro q w2 hq hb2
  have hb02 := hb1.trans (hb2.mono hb1.size)
  refine (c_has_nil (hp.grow hb02) hq.row (by omega) (by simp)).mono ?_
  rintro e w3 ⟨rfl, hb3⟩
  refine ⟨_, rfl, ?_⟩
  have hb03 := hb02.trans (hb3.mono hb02.size)
  refine bif_intro (fun h => ?_) (fun h => ?_)
  · exact no w3 hb03 fun hh => by rw [hh.2.1] at h; cases h
  have hno2341 : hasP P [2, 3, 4, 1] = false := by simpa using h
  refine new4 fun r w4 hr hrn hb4 => ?_
  have hb04 := hb03.trans (hb4.mono hb03.size)
  have hrw : w.heap.size ≤ r := Nat.le_trans hb03.size hrn
  refine lit5 (B := w4.heap.size) (Nat.le_refl _) 3 5 2 4 1 ?_
  intro q2 w5 hq2 hb5
  have hb05 := hb04.trans (hb5.mono hb04.size)
  refine (c_occurrences (hp.grow hb05) hq2.row h8 (by simp)).mono ?_
  rintro e w6 ⟨s, rfl, hs, hb6⟩
  refine ⟨s, rfl, ?_⟩
  have hb06 := hb05.trans (hb6.mono hb05.size)
  have hr6 := (hr.grow hb5).grow hb6
  have hsn := hs.n
  have h88 : ∀ Q : List Int, Q.length ≤ 8 → (occV P Q).length ≤ 8 ^ 8 := fun Q hQ => Nat.le_trans (List.length_filter_le _ _) (Nat.le_trans (plN_len _ _) (Nat.le_trans (Nat.pow_le_pow_left h8 _) (Nat.pow_le_pow_right (by omega) hQ)))
  have hc5 := h88 [3, 5, 2, 4, 1] (by simp)
  have hc4 := h88 [3, 2, 4, 1] (by simp)
  show impl_IsTwicePattern.L5 std p (some r) s (s.n : Int) 0 w6 _
  rw [hsn]
  -- the rows of the first list are not the map
  obtain ⟨rs, hrs⟩ := hs
  have hrows : ∀ (w' : World) (T : Nat → Prop), Keeps T w6 w' → (∀ x, T x → x = r) → RowSS w' s (occV P [3, 5, 2, 4, 1]) := by
    intro w' T hk hT
    have hcell : ∀ (a : Addr) (v : Value), w6.cell? a = some v → w'.cell? a = some v := fun a v hc => by
      have hlt := World.block_lt_of_cell? w6 _ hc
      have hne : ¬ T a.block := fun ht => by
        have e := hT _ ht
        obtain ⟨es, clock, hg, _⟩ := hr6
        unfold World.cell? at hc
        rw [e, hg] at hc
        simp at hc
      have := hk.block a.block hlt hne
      unfold World.cell? at hc ⊢
      rw [this]; exact hc
    refine ⟨rs, ⟨hrs.out.n, hrs.out.nc, fun i v hv => ?_⟩, hrs.len, fun i t L e1 e2 => ⟨(hrs.at_ i t L e1 e2).n, (hrs.at_ i t L e1 e2).nc, fun j v hv => ?_⟩⟩
    · obtain ⟨a, ha, hc⟩ := hrs.out.cell i v hv; exact ⟨a, ha, hcell _ _ hc⟩
    · obtain ⟨a, ha, hc⟩ := (hrs.at_ i t L e1 e2).cell j v hv; exact ⟨a, ha, hcell _ _ hc⟩
  refine impl_IsTwicePattern.L5_rule _ _ _ _ _ _ _ (I := fun k w' => 0 ≤ k ∧ k ≤ (occV P [3, 5, 2, 4, 1]).length ∧ Keeps (fun x => x = r) w6 w' ∧ ∃ S, MapK w' r S ∧ ∀ a b c d : Int, (a, b, c, d) ∈ S ↔ ∃ e j, j < k.toNat ∧ (occV P [3, 5, 2, 4, 1])[j]? = some [a, e, b, c, d]) (μ := fun k _ => ((occV P [3, 5, 2, 4, 1]).length - k).toNat)
    ⟨by omega, by omega, Keeps.refl _ _, [], hr6, fun a b c d => ⟨fun hm => (by cases hm), fun ⟨e, j, hj, _⟩ => by simp at hj⟩⟩ ?_
  rintro k w7 ⟨hk0, hk, hk7, S, hS, hSm⟩
  have hs7 := hrows w7 _ hk7 (fun x hx => hx)
  have hb07 : Below w.heap.size w w7 := hb06.trans (hk7.below (fun x hx => by rw [hx]; exact hrw) hb06.size)
  rw [impl_IsTwicePattern.B5_s]
  refine bif_dec (fun h3 => ?_) (fun h3 => ?_)
  · have hlt : k.toNat < (occV P [3, 5, 2, 4, 1]).length := by omega
    refine RowSS.get hs7 hk0 (by omega) fun x hx => ?_
    rw [getD_SS hlt] at hx
    obtain ⟨a, e, b, c, d, hl, hO⟩ := mem_occ5.1 (List.getElem_mem hlt)
    rw [hl] at hx
    refine drew_intro fun w8 hd8 => ?_
    have hx8 : RowI w8 x [a, e, b, c, d] := hx.heap hd8.heap'
    have hS8 : MapK w8 r S := hS.grow (hd8.below _)
    refine RowI.place hx8 (i := 0) (by omega) (by simp) fun a0 h0 => ?_
    refine RowI.place hx8 (i := 2) (by omega) (by simp) fun a2 h2 => ?_
    refine RowI.place hx8 (i := 3) (by omega) (by simp) fun a3 h3' => ?_
    refine RowI.place hx8 (i := 4) (by omega) (by simp) fun a4 h4' => ?_
    have g0 : w8.cell? a0 = some (vI a) := h0
    have g2 : w8.cell? a2 = some (vI b) := h2
    have g3 : w8.cell? a3 = some (vI c) := h3'
    have g4 : w8.cell? a4 = some (vI d) := h4'
    have fin : buildK PP T__4_int [(0, vI a), (1, vI b), (2, vI c), (3, vI d)] fun v => sem0 PP (Instr.mapUpdate T_M_4_int_bool (.map (some r)) v (.bool true)) w8 fun w9 =>
        ∃ k_n, impl_IsTwicePattern.emb5 p (some r) s (occV P [3, 5, 2, 4, 1]).length (w64 (k + 1)) = impl_IsTwicePattern.emb5 p (some r) s (occV P [3, 5, 2, 4, 1]).length k_n ∧ (0 ≤ k_n ∧ k_n ≤ (occV P [3, 5, 2, 4, 1]).length ∧ Keeps (fun x => x = r) w6 w9 ∧ ∃ S, MapK w9 r S ∧ ∀ a b c d : Int, (a, b, c, d) ∈ S ↔ ∃ e j, j < k_n.toNat ∧ (occV P [3, 5, 2, 4, 1])[j]? = some [a, e, b, c, d]) ∧ (((occV P [3, 5, 2, 4, 1]).length : Int) - k_n).toNat < (((occV P [3, 5, 2, 4, 1]).length : Int) - k).toNat := by
      refine mk4 a b c d ?_
      refine put4 hS8 (a, b, c, d) fun w9 hS9 hg9 => ?_
      refine ⟨k + 1, by rw [w64_succ hk0 (by omega)], ⟨by omega, by omega, (hk7.trans (hd8.keeps _)).trans ((keeps_grown hg9).mono fun y hy => (Option.some.inj hy).symm), _, hS9, fun a' b' c' d' => ?_⟩, by omega⟩
      rw [List.mem_cons, hSm]
      constructor
      · rintro (h5 | ⟨e', j, hj, hje⟩)
        · simp at h5
          obtain ⟨rfl, rfl, rfl, rfl⟩ := h5
          exact ⟨e, k.toNat, by omega, by rw [List.getElem?_eq_getElem hlt, hl]⟩
        · exact ⟨e', j, by omega, hje⟩
      · rintro ⟨e', j, hj, hje⟩
        by_cases ej : j = k.toNat
        · subst ej
          rw [List.getElem?_eq_getElem hlt, hl] at hje
          simp at hje
          obtain ⟨rfl, rfl, rfl, rfl, rfl⟩ := hje
          exact .inl rfl
        · exact .inr ⟨e', j, by omega, hje⟩
    have l0 : ∀ K : Int → Prop, K a → load1 (.int .i64) a0 w8 K := fun K hk => load_int g0 hk
    have l2 : ∀ K : Int → Prop, K b → load1 (.int .i64) a2 w8 K := fun K hk => load_int g2 hk
    have l3 : ∀ K : Int → Prop, K c → load1 (.int .i64) a3 w8 K := fun K hk => load_int g3 hk
    have l4 : ∀ K : Int → Prop, K d → load1 (.int .i64) a4 w8 K := fun K hk => load_int g4 hk
    repeat' first
      | (with_reducible exact fin)
      | (with_reducible apply And.intro)
      | (with_reducible refine l0 _ ?_)
      | (with_reducible refine l2 _ ?_)
      | (with_reducible refine l3 _ ?_)
      | (with_reducible refine l4 _ ?_)
  · rw [impl_IsTwicePattern.A5_0_s]
    have hSx : ∀ a b c d : Int, (a, b, c, d) ∈ S ↔ ∃ e, Occ5 P a e b c d := fun a b c d => by
      rw [hSm]
      constructor
      · rintro ⟨e, j, _, hje⟩
        obtain ⟨a', e', b', c', d', hl, hO⟩ := mem_occ5.1 (List.mem_of_getElem? hje)
        simp at hl
        obtain ⟨rfl, rfl, rfl, rfl, rfl⟩ := hl
        exact ⟨e, hO⟩
      · rintro ⟨e, hO⟩
        obtain ⟨j, hj, hje⟩ := List.getElem_of_mem (mem_occ5.2 ⟨a, e, b, c, d, rfl, hO⟩)
        exact ⟨e, j, by omega, by rw [List.getElem?_eq_getElem hj, hje]⟩
    refine lit4 (B := w7.heap.size) (Nat.le_refl _) 3 2 4 1 ?_
    intro q3 w8 hq3 hb8
    have hb08 := hb07.trans (hb8.mono hb07.size)
    refine (c_occurrences (hp.grow hb08) hq3.row h8 (by simp)).mono ?_
    rintro e w9 ⟨u, rfl, hu, hb9⟩
    refine ⟨u, rfl, ?_⟩
    have hb09 := hb08.trans (hb9.mono hb08.size)
    have hS9 := (hS.grow hb8).grow hb9
    have hun := hu.n
    show impl_IsTwicePattern.L10 std (some r) u (u.n : Int) 0 w9 _
    rw [hun]
    refine impl_IsTwicePattern.L10_rule _ _ _ _ _ _ (I := fun k w' => 0 ≤ k ∧ k ≤ (occV P [3, 2, 4, 1]).length ∧ Drew w9 w' ∧ ∀ a b c d : Int, (∃ j, j < k.toNat ∧ (occV P [3, 2, 4, 1])[j]? = some [a, b, c, d]) → (a, b, c, d) ∈ S) (μ := fun k _ => ((occV P [3, 2, 4, 1]).length - k).toNat)
      ⟨by omega, by omega, Drew.refl _, fun a b c d ⟨j, hj, _⟩ => by simp at hj⟩ ?_
    rintro k w10 ⟨hk0, hk, hd10, hall⟩
    have hb10 : Below w.heap.size w w10 := hb09.trans (hd10.below _)
    rw [impl_IsTwicePattern.B10_s]
    refine bif_dec (fun h5 => ?_) (fun h5 => ?_)
    · have hlt : k.toNat < (occV P [3, 2, 4, 1]).length := by omega
      refine RowSS.get (hu.heap hd10.heap') hk0 (by omega) fun x hx => ?_
      rw [getD_SS hlt] at hx
      obtain ⟨a, b, c, d, hl, hO⟩ := mem_occ4.1 (List.getElem_mem hlt)
      rw [hl] at hx
      refine drew_intro fun w11 hd11 => ?_
      have hx11 : RowI w11 x [a, b, c, d] := hx.heap hd11.heap'
      have hS11 : MapK w11 r S := hS9.grow ((hd10.trans hd11).below _)
      refine RowI.place hx11 (i := 0) (by omega) (by simp) fun a0 h0 => ?_
      refine RowI.place hx11 (i := 1) (by omega) (by simp) fun a2 h2 => ?_
      refine RowI.place hx11 (i := 2) (by omega) (by simp) fun a3 h3' => ?_
      refine RowI.place hx11 (i := 3) (by omega) (by simp) fun a4 h4' => ?_
      have g0 : w11.cell? a0 = some (vI a) := h0
      have g2 : w11.cell? a2 = some (vI b) := h2
      have g3 : w11.cell? a3 = some (vI c) := h3'
      have g4 : w11.cell? a4 = some (vI d) := h4'
      have fin : buildK PP T__4_int [(0, vI a), (1, vI b), (2, vI c), (3, vI d)] fun v => sem1 .bool PP (Instr.lookup T_M_4_int_bool (.map (some r)) v false) w11 fun (ρ : Bool) w12 =>
          impl_IsTwicePattern.J13 std (some r) u (occV P [3, 2, 4, 1]).length k (!ρ) w12 (fun e2 w2 => ∃ k_n, e2 = impl_IsTwicePattern.emb10 (some r) u (occV P [3, 2, 4, 1]).length k_n ∧ (0 ≤ k_n ∧ k_n ≤ (occV P [3, 2, 4, 1]).length ∧ Drew w9 w2 ∧ ∀ a b c d : Int, (∃ j, j < k_n.toNat ∧ (occV P [3, 2, 4, 1])[j]? = some [a, b, c, d]) → (a, b, c, d) ∈ S) ∧ (((occV P [3, 2, 4, 1]).length : Int) - k_n).toNat < (((occV P [3, 2, 4, 1]).length : Int) - k).toNat) (impl_IsTwicePattern.q138 std fun e w' => e = .returned (.bool (IsTwicePatternV P)) ∧ Below w.heap.size w w') := by
        refine mk4 a b c d ?_
        refine look4 hS11 (a, b, c, d) ?_
        rw [impl_IsTwicePattern.J13_s]
        refine bif_intro (fun h6 => ?_) (fun h6 => ?_)
        · rw [impl_IsTwicePattern.R10_s]
          have hnm : (a, b, c, d) ∉ S := by simpa using h6
          refine no w11 (hb10.trans (hd11.below _)) fun hh => hnm ((hSx a b c d).2 ?_)
          obtain ⟨e, e1, e2, e3⟩ := hh.2.2 a b c d hO
          obtain ⟨o1, o2, o3, o4, o5, o6, o7, o8⟩ := hO
          exact ⟨e, o1, e1, e2, o3, o4, o5, o6, o7, o8, e3⟩
        · have hm : (a, b, c, d) ∈ S := by simpa using h6
          refine ⟨k + 1, by rw [w64_succ hk0 (by omega)], ⟨by omega, by omega, hd10.trans hd11, fun a' b' c' d' ⟨j, hj, hje⟩ => ?_⟩, by omega⟩
          by_cases ej : j = k.toNat
          · subst ej
            rw [List.getElem?_eq_getElem hlt, hl] at hje
            simp at hje
            obtain ⟨rfl, rfl, rfl, rfl⟩ := hje
            exact hm
          · exact hall a' b' c' d' ⟨j, by omega, hje⟩
      have l0 : ∀ K : Int → Prop, K a → load1 (.int .i64) a0 w11 K := fun K hk => load_int g0 hk
      have l2 : ∀ K : Int → Prop, K b → load1 (.int .i64) a2 w11 K := fun K hk => load_int g2 hk
      have l3 : ∀ K : Int → Prop, K c → load1 (.int .i64) a3 w11 K := fun K hk => load_int g3 hk
      have l4 : ∀ K : Int → Prop, K d → load1 (.int .i64) a4 w11 K := fun K hk => load_int g4 hk
      repeat' first
        | (with_reducible exact fin)
        | (with_reducible apply And.intro)
        | (with_reducible refine l0 _ ?_)
        | (with_reducible refine l2 _ ?_)
        | (with_reducible refine l3 _ ?_)
        | (with_reducible refine l4 _ ?_)
    · rw [impl_IsTwicePattern.A10_2_s]
      refine ⟨?_, hb10⟩
      rw [IsTwicePatternV, decide_eq_true]
      refine ⟨hP, hno2341, fun a b c d hO => ?_⟩
      obtain ⟨j, hj, hje⟩ := List.getElem_of_mem (mem_occ4.2 ⟨a, b, c, d, rfl, hO⟩)
      obtain ⟨e, hO5⟩ := (hSx a b c d).1 (hall a b c d ⟨j, by omega, by rw [List.getElem?_eq_getElem hj, hje]⟩)
      obtain ⟨o1, o2, o3, o4, o5, o6, o7, o8, o9, o10⟩ := hO5
      exact ⟨e, o2, o3, o10⟩
end Go.Proofs.Ytmhgjfahgemblaa
