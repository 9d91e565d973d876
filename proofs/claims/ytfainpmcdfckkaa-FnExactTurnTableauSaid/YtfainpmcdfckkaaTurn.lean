/- TurnTableau: both texts, and the law. -/
import Derived.Test.YtfainpmcdfckkaaTab2
namespace Go.Proofs.Ytfainpmcdfckkaa
open Go Go.RowKit
set_option maxRecDepth 100000

/-- The numbers of a column. -/
def col (LL : List (List Int)) (c : Nat) : List Int := LL.filterMap fun r => r[c]?
def turnW (LL : List (List Int)) : List (List Int) := (List.range (LL.getD 0 []).length).map (col LL)
theorem col_length (LL : List (List Int)) (c : Nat) : (col LL c).length ≤ LL.length := List.length_filterMap_le _ _
theorem col_succ {LL : List (List Int)} {i : Nat} (h : i < LL.length) {c : Nat} (hc : c < (LL.getD i []).length) : col (LL.take (i + 1)) c = col (LL.take i) c ++ [at2 LL i c] := by
  have e : at2 LL i c = LL[i][c]'(by rw [← getD_SS h]; exact hc) := by rw [at2, getD_lt hc]; simp only [getD_SS h]
  rw [List.take_succ_eq_append_getElem h, col, List.filterMap_append, e]
  congr 1
  rw [getD_SS h] at hc
  simp [List.getElem?_eq_getElem hc]
theorem col_short {LL : List (List Int)} {i : Nat} (h : i < LL.length) {c : Nat} (hc : (LL.getD i []).length ≤ c) : col (LL.take (i + 1)) c = col (LL.take i) c := by
  rw [List.take_succ_eq_append_getElem h, col, List.filterMap_append]
  rw [getD_SS h] at hc
  simp [List.getElem?_eq_none hc, col]
theorem FormOk.anti {LL : List (List Int)} (h : FormOk (lens LL) 8) : ∀ j i, i ≤ j → j < LL.length → (LL.getD j []).length ≤ (LL.getD i []).length := by
  intro j
  induction j with
  | zero => intro i hi hj; have : i = 0 := by omega
            subst this; exact Nat.le_refl _
  | succ j ih =>
    intro i hi hj
    by_cases e : i = j + 1
    · subst e; exact Nat.le_refl _
    · have h1 := h.step hj (by omega)
      rw [Nat.add_sub_cancel] at h1
      exact Nat.le_trans h1 (ih i (by omega) (by omega))
/-- How many columns there are after i rows and j numbers of the next one. -/
def nc (LL : List (List Int)) (i j : Nat) : Nat := if i = 0 then j else (LL.getD 0 []).length
def part (LL : List (List Int)) (i j : Nat) : List (List Int) := (List.range (nc LL i j)).map fun c => if c < j then col (LL.take (i + 1)) c else col (LL.take i) c
theorem part_length (LL : List (List Int)) (i j : Nat) : (part LL i j).length = nc LL i j := by simp [part]
theorem part_next {LL : List (List Int)} (hf : FormOk (lens LL) 8) {i : Nat} (hi : i < LL.length) : part LL i (LL.getD i []).length = part LL (i + 1) 0 := by
  have h1 : nc LL i (LL.getD i []).length = nc LL (i + 1) 0 := by
    unfold nc
    rw [if_neg (Nat.succ_ne_zero i)]
    split
    · rename_i h; rw [h]
    · rfl
  unfold part
  rw [h1]
  apply List.map_congr_left
  intro c hc
  rw [if_neg (Nat.not_lt_zero c)]
  split
  · rfl
  · rename_i h2; rw [col_short hi (by omega)]
theorem part_last {LL : List (List Int)} : part LL LL.length 0 = turnW LL := by
  unfold part turnW nc
  by_cases h : LL.length = 0
  · have : LL = [] := List.eq_nil_of_length_eq_zero h
    subst this; rfl
  · rw [if_neg h]
    apply List.map_congr_left
    intro c hc
    rw [if_neg (Nat.not_lt_zero c), List.take_length]
theorem part_getD {LL : List (List Int)} {i j c : Nat} (hc : c < nc LL i j) : (part LL i j).getD c [] = if c < j then col (LL.take (i + 1)) c else col (LL.take i) c := by
  simp [part, List.getD_eq_getElem?_getD, hc]
/-- One number more. -/
theorem part_set {LL : List (List Int)} {i j : Nat} (hi : i < LL.length) (hj : j < (LL.getD i []).length) (hjn : j < nc LL i j) : (part LL i j).set j (col (LL.take i) j ++ [at2 LL i j]) = part LL i (j + 1) := by
  have h0 : i ≠ 0 := fun e => by subst e; simp [nc] at hjn
  have h1 : nc LL i (j + 1) = nc LL i j := by simp [nc, h0]
  apply List.ext_getElem?
  intro c
  rw [List.getElem?_set, part_length]
  by_cases e : j = c
  · subst e
    rw [if_pos rfl, if_pos hjn]
    rw [part, List.getElem?_map, h1, List.getElem?_range hjn]
    simp [col_succ hi hj]
  · rw [if_neg e, part, part, List.getElem?_map, List.getElem?_map, h1]
    by_cases hc : c < nc LL i j
    · rw [List.getElem?_range hc]
      simp only [Option.map_some, Option.some.injEq]
      by_cases h2 : c < j
      · rw [if_pos h2, if_pos (by omega)]
      · rw [if_neg h2, if_neg (by omega)]
    · rw [List.getElem?_eq_none (by simpa using hc)]; rfl
theorem part_push {LL : List (List Int)} {j : Nat} (hj : j < (LL.getD 0 []).length) (hi : 0 < LL.length) : part LL 0 j ++ [col (LL.take 0) j ++ [at2 LL 0 j]] = part LL 0 (j + 1) := by
  unfold part nc
  rw [if_pos rfl, if_pos rfl, List.range_succ, List.map_append, List.map_cons, List.map_nil, if_pos (by omega), col_succ hi hj]
  congr 1
  apply List.map_congr_left
  intro c hc
  rw [List.mem_range] at hc
  rw [if_pos hc, if_pos (by omega)]
theorem turn_room {LL : List (List Int)} (hf : FormOk (lens LL) 8) (h0 : 0 < LL.length) : (LL.getD 0 []).length ≤ 8 := by
  rw [getD_SS h0]; exact Nat.le_trans (len_le_tot (List.getElem_mem h0)) hf.tot
theorem row_le {LL : List (List Int)} (hf : FormOk (lens LL) 8) {i : Nat} (hi : i < LL.length) : (LL.getD i []).length ≤ 8 := by
  rw [getD_SS hi]; exact Nat.le_trans (len_le_tot (List.getElem_mem hi)) hf.tot

open Classical in
noncomputable def TurnTableauV (LL : List (List Int)) : List (List Int) := if IsTab LL then turnW LL else []
open Classical in
noncomputable def TurnTableauV1 (LL : List (List Int)) : Bool := decide (IsTab LL)
theorem turnW_len {LL : List (List Int)} (hf : FormOk (lens LL) 8) : (turnW LL).length ≤ 8 ∧ tot (turnW LL) ≤ 64 := by
  have h1 : (turnW LL).length ≤ 8 := by
    rw [turnW, List.length_map, List.length_range]
    rcases Nat.eq_zero_or_pos LL.length with h | h
    · have : LL = [] := List.eq_nil_of_length_eq_zero h
      subst this; simp
    · exact turn_room hf h
  refine ⟨h1, ?_⟩
  have : tot (turnW LL) ≤ (turnW LL).length * 8 := by
    have hcount := hf.count
    have : ∀ l : List Nat, tot (l.map (col LL)) ≤ l.length * 8 := fun l => by
      induction l with
      | nil => simp [tot]
      | cons x r ih =>
        rw [List.map_cons, tot_cons, List.length_cons, Nat.succ_mul]
        have := col_length LL x
        omega
    have h2 := this (List.range (LL.getD 0 []).length)
    rw [List.length_range] at h2
    rw [turnW, List.length_map, List.length_range]
    exact h2
  omega
theorem TurnTableauV_len (LL : List (List Int)) : (TurnTableauV LL).length < 2^38 ∧ tot (TurnTableauV LL) < 2^38 := by
  unfold TurnTableauV
  split
  · rename_i h; have := turnW_len h.form; omega
  · simp [tot]

theorem c_implTurnTableau {w : World} {a : Sl} {LL : List (List Int)} (ha : RowSS w a LL) (hL : LL.length < 2^38) (ht : tot LL < 2^38) :
    Calls PP F.impl_TurnTableau #[a.v] w fun e w' => ∃ s : Sl, e = .returned (.tuple #[s.v, .bool (TurnTableauV1 LL)]) ∧ OwnSS w' w.heap.size s (TurnTableauV LL) ∧ Below w.heap.size w w' := by
  have han := ha.n
  refine impl_TurnTableau.calls a ?_
  rw [impl_TurnTableau.E_s]
  refine (c_implIsTableau0 ha hL ht).mono ?_
  rintro e w1 ⟨rfl, hb1⟩
  refine ⟨_, rfl, ?_⟩
  refine bif_intro (fun h => ?_) (fun h => ?_)
  · have h : ¬ IsTab LL := by simpa using h
    exact ⟨Sl.nil, by simp [TurnTableauV1, h], by rw [TurnTableauV, if_neg h]; exact OwnSS.none _ _, hb1⟩
  have h : IsTab LL := by simpa using h
  have hf := h.form
  have hV : TurnTableauV LL = turnW LL := by rw [TurnTableauV, if_pos h]
  have hV1 : TurnTableauV1 LL = true := by simp [TurnTableauV1, h]
  refine lit0 oneSint (B := w.heap.size) hb1.size ?_
  intro o0 w2 ho0 hg2 _
  have hb2 := hb1.grown hg2 hb1.size (by simp)
  have hpart0 : part LL 0 0 = [] := by simp [part, nc]
  refine impl_TurnTableau.L5_rule _ _ _ _ _ _ (I := fun o i w' => 0 ≤ i ∧ i ≤ LL.length ∧ OwnSS w' w.heap.size o (part LL i.toNat 0) ∧ Below w.heap.size w w') (μ := fun _ i _ => (LL.length - i).toNat)
    ⟨by omega, by omega, by rw [show (0 : Int).toNat = 0 from rfl, hpart0]; exact OwnSS.nil ho0, hb2⟩ ?_
  rintro o i w' ⟨hi0, hi, ho, hb⟩
  rw [impl_TurnTableau.B5_s]
  refine bif_dec (fun h3 => ?_) (fun h3 => ?_)
  · have hlt : i.toNat < LL.length := by omega
    refine RowSS.getB ha hb hi0 (by omega) fun r hr => ?_
    have hrn : r.n = (LL.getD i.toNat []).length := by have := hr.n; simpa using this
    have hr8 := row_le hf hlt
    rw [hrn]
    refine impl_TurnTableau.L8_rule _ _ _ _ _ _ _ _ _ (I := fun o2 j w3 => 0 ≤ j ∧ j ≤ (LL.getD i.toNat []).length ∧ OwnSS w3 w.heap.size o2 (part LL i.toNat j.toNat) ∧ Below w.heap.size w w3) (μ := fun _ j _ => ((LL.getD i.toNat []).length - j).toNat)
      ⟨by omega, by omega, ho, hb⟩ ?_
    rintro o2 j w3 ⟨hj0, hj, ho2, hb3⟩
    rw [impl_TurnTableau.B8_s]
    have hon := ho2.row.n
    rw [part_length] at hon
    refine bif_dec (fun h4 => ?_) (fun h4 => ?_)
    · have hjlt : j.toNat < (LL.getD i.toNat []).length := by omega
      have hesc : (j + 1).toNat = j.toNat + 1 := by omega
      refine RowI.get (hr.grow hb3) hj0 (by omega) ?_
      have join : ∀ (o3 : Sl) (w4 : World) (X : List (List Int)), OwnSS w4 w.heap.size o3 X → j.toNat < X.length → X.getD j.toNat [] = col (LL.take i.toNat) j.toNat → X.set j.toNat (col (LL.take i.toNat) j.toNat ++ [at2 LL i.toNat j.toNat]) = part LL i.toNat (j.toNat + 1) → Below w.heap.size w w4 →
          impl_TurnTableau.J12 std o3 j ((LL.getD i.toNat []).getD j.toNat 0) a (a.n : Int) i r ((LL.getD i.toNat []).length : Int) j w4 (fun e2 w2 => ∃ out_4_n t21_n, e2 = impl_TurnTableau.emb8 out_4_n a (a.n : Int) i r ((LL.getD i.toNat []).length : Int) t21_n ∧
            (0 ≤ t21_n ∧ t21_n ≤ (LL.getD i.toNat []).length ∧ OwnSS w2 w.heap.size out_4_n (part LL i.toNat t21_n.toNat) ∧ Below w.heap.size w w2) ∧ ((LL.getD i.toNat []).length - t21_n).toNat < ((LL.getD i.toNat []).length - j).toNat)
            (impl_TurnTableau.q10 std (fun e2 w2 => ∃ out_4_n t15_n, e2 = impl_TurnTableau.emb5 out_4_n a (a.n : Int) t15_n ∧ (0 ≤ t15_n ∧ t15_n ≤ LL.length ∧ OwnSS w2 w.heap.size out_4_n (part LL t15_n.toNat 0) ∧ Below w.heap.size w w2) ∧ (LL.length - t15_n).toNat < (LL.length - i).toNat)
            (impl_TurnTableau.q5 std fun e w' => ∃ s : Sl, e = .returned (.tuple #[s.v, .bool (TurnTableauV1 LL)]) ∧ OwnSS w' w.heap.size s (TurnTableauV LL) ∧ Below w.heap.size w w')) := by
        rintro o3 w4 X ⟨rs, hX⟩ hjX hXj hset hb4
        rw [impl_TurnTableau.J12_s]
        have hcl := col_length (LL.take i.toNat) j.toNat
        have hcount := hf.count
        refine hX.appendAt hj0 (by omega) hb4.size (by rw [hXj]; rw [List.length_take] at hcl; omega) ?_
        intro w5 rs5 hX5 hb5
        rw [hXj] at hX5
        refine ⟨o3, j + 1, by rw [w64_succ hj0 (by omega)], ⟨by omega, by omega, ⟨rs5, ?_⟩, hb4.trans hb5⟩, by omega⟩
        rw [hesc, ← hset]
        exact hX5
      rw [hon]
      refine bif_intro (fun h5 => ?_) (fun h5 => ?_)
      · have h5 : j = nc LL i.toNat j.toNat := by simpa using h5
        have hi00 : i.toNat = 0 := by
          apply Classical.byContradiction
          intro hne
          have := hf.anti i.toNat 0 (by omega) hlt
          rw [nc, if_neg hne] at h5; omega
        obtain ⟨rs, ho2⟩ := ho2
        have hpl : (part LL i.toNat j.toNat).length = j.toNat := by rw [part_length]; omega
        refine append_sl (L := []) ho2 hb3.size (Own.nil _ _ _) (fun t _ g e1 e2 => by simp [Sl.blk, Sl.nil] at e2) (by omega) ?_
        intro o3 w4 ho3 hg4 _
        have h0l : 0 < LL.length := by omega
        refine join o3 w4 _ ⟨_, ho3⟩ (by simp; omega) ?_ ?_ (hb3.grown hg4 hb3.size (fun g hg => (ho2.out.lt g hg).1))
        · rw [List.getD_eq_getElem?_getD, List.getElem?_append_right (by omega), hpl, hi00]; simp [col]
        · rw [List.set_append_right _ _ (by omega), hpl, Nat.sub_self, List.set_cons_zero, hi00]
          rw [hi00] at hjlt
          exact part_push hjlt h0l
      · have h5 : j ≠ nc LL i.toNat j.toNat := by simpa using h5
        have hjn : j.toNat < nc LL i.toNat j.toNat := by
          by_cases e : i.toNat = 0
          · rw [nc, if_pos e] at h5; omega
          · rw [nc, if_neg e]; have := hf.anti i.toNat 0 (by omega) hlt; omega
        refine join o2 w3 _ ho2 (by rw [part_length]; exact hjn) (by rw [part_getD hjn, if_neg (Nat.lt_irrefl _)]) (part_set hlt hjlt hjn) hb3
    · rw [impl_TurnTableau.A8_2_s]
      refine ⟨o2, i + 1, by rw [w64_succ hi0 (by omega)], ⟨by omega, by omega, ?_, hb3⟩, by omega⟩
      rw [show j.toNat = (LL.getD i.toNat []).length by omega, part_next hf hlt] at ho2
      rw [show (i + 1).toNat = i.toNat + 1 by omega]
      exact ho2
  · rw [impl_TurnTableau.A5_0_s]
    rw [show i.toNat = LL.length by omega, part_last] at ho
    exact ⟨o, by rw [hV1], by rw [hV]; exact ho, hb⟩

theorem spec_stop {LL : List (List Int)} (hf : FormOk (lens LL) 8) {r c : Nat} (hr : r < LL.length) (hc : (LL.getD r []).length ≤ c) : col (LL.take r) c = col LL c := by
  have : ∀ n, r + n ≤ LL.length → col (LL.take (r + n)) c = col (LL.take r) c := fun n => by
    induction n with
    | zero => intro _; rfl
    | succ n ih =>
      intro hn
      rw [← Nat.add_assoc, col_short (by omega) (Nat.le_trans (hf.anti (r + n) r (by omega) (by omega)) hc)]
      exact ih (by omega)
  have h := this (LL.length - r) (by omega)
  rw [show r + (LL.length - r) = LL.length by omega, List.take_length] at h
  exact h.symm
theorem c_specTurnTableau {w : World} {a : Sl} {LL : List (List Int)} (ha : RowSS w a LL) (hL : LL.length < 2^38) (ht : tot LL < 2^38) :
    Calls PP F.spec_TurnTableau #[a.v] w fun e w' => ∃ s : Sl, e = .returned (.tuple #[s.v, .bool (TurnTableauV1 LL)]) ∧ RowSS w' s (TurnTableauV LL) ∧ Below w.heap.size w w' := by
  have han := ha.n
  refine spec_TurnTableau.calls a ?_
  rw [spec_TurnTableau.E_s]
  refine (c_specIsTableau0 ha hL ht).mono ?_
  rintro e w1 ⟨rfl, hb1⟩
  refine ⟨_, rfl, ?_⟩
  refine bif_intro (fun h => ?_) (fun h => ?_)
  · have h : ¬ IsTab LL := by simpa using h
    refine lit0 oneSint (B := w.heap.size) hb1.size ?_
    intro s w2 hs hg _
    exact ⟨s, by simp [TurnTableauV1, h], by rw [TurnTableauV, if_neg h]; exact (OwnSS.nil hs).row, hb1.grown hg hb1.size (by simp)⟩
  have h : IsTab LL := by simpa using h
  have hf := h.form
  have hV : TurnTableauV LL = turnW LL := by rw [TurnTableauV, if_pos h]
  have hV1 : TurnTableauV1 LL = true := by simp [TurnTableauV1, h]
  refine lit0 oneSint (B := w.heap.size) hb1.size ?_
  intro o0 w2 ho0 hg2 _
  have hb2 := hb1.grown hg2 hb1.size (by simp)
  have htl := (turnW_len hf).1
  have hcount := hf.count
  have h0len : (turnW LL).length = (LL.getD 0 []).length := by simp [turnW]
  refine spec_TurnTableau.L5_rule _ _ _ _ _ (I := fun o c w' => 0 ≤ c ∧ c ≤ (LL.getD 0 []).length ∧ OwnSS w' w.heap.size o ((List.range c.toNat).map (col LL)) ∧ Below w.heap.size w w') (μ := fun _ c _ => ((LL.getD 0 []).length - c).toNat)
    ⟨by omega, by omega, OwnSS.nil ho0, hb2⟩ ?_
  rintro o c w' ⟨hc0, hc, ho, hb⟩
  have fin : ¬ c < (LL.getD 0 []).length → spec_TurnTableau.q7 std (fun e w' => ∃ s : Sl, e = .returned (.tuple #[s.v, .bool (TurnTableauV1 LL)]) ∧ RowSS w' s (TurnTableauV LL) ∧ Below w.heap.size w w') (.exit 0) (spec_TurnTableau.x0 o) w' := by
    intro h9
    rw [spec_TurnTableau.A5_0_s]
    rw [show c.toNat = (LL.getD 0 []).length by omega] at ho
    exact ⟨o, by rw [hV1], by rw [hV]; exact ho.row, hb⟩
  rw [spec_TurnTableau.B5_s]
  refine bif_dec (fun h3 => ?_) (fun h3 => ?_)
  · refine RowSS.getB ha hb (by omega) (by omega) fun r hr => ?_
    have hrn : r.n = (LL.getD 0 []).length := by have := hr.n; simpa using this
    rw [hrn]
    refine bif_dec (fun h4 => ?_) (fun h4 => fin h4)
    refine lit0 oneInt (B := w'.heap.size) (Nat.le_refl _) ?_
    intro t0 w3 ht0 hg3 _
    have hb3 := below_of_grow hg3
    refine spec_TurnTableau.L9_rule _ _ _ _ _ _ _ (I := fun t r w4 => 0 ≤ r ∧ r ≤ LL.length ∧ OwnI w4 w'.heap.size t (col (LL.take r.toNat) c.toNat) ∧ Below w'.heap.size w' w4) (μ := fun _ r _ => (LL.length - r).toNat)
      ⟨by omega, by omega, ht0, hb3⟩ ?_
    rintro t r w4 ⟨hr0, hr1, ht4, hb4⟩
    have out : col (LL.take r.toNat) c.toNat = col LL c.toNat → spec_TurnTableau.q15 std (fun e2 w2 => ∃ out_4_n c_5_n, e2 = spec_TurnTableau.emb5 a out_4_n c_5_n ∧ (0 ≤ c_5_n ∧ c_5_n ≤ (LL.getD 0 []).length ∧ OwnSS w2 w.heap.size out_4_n ((List.range c_5_n.toNat).map (col LL)) ∧ Below w.heap.size w w2) ∧ ((LL.getD 0 []).length - c_5_n).toNat < ((LL.getD 0 []).length - c).toNat)
        (spec_TurnTableau.q7 std fun e w' => ∃ s : Sl, e = .returned (.tuple #[s.v, .bool (TurnTableauV1 LL)]) ∧ RowSS w' s (TurnTableauV LL) ∧ Below w.heap.size w w') (.exit 2) (spec_TurnTableau.x2 a o c t) w4 := by
      intro hcol
      rw [spec_TurnTableau.A9_2_s]
      rw [hcol] at ht4
      refine append_new ho hb4 hb.size ht4 (by simp; omega) ?_
      intro o' w5 ho5 hg5 _
      refine ⟨o', c + 1, by rw [w64_succ hc0 (by omega)], ⟨by omega, by omega, ?_, (hb.trans (hb4.mono hb.size)).grown hg5 (Nat.le_trans hb.size hb4.size) (fun g hg => (ho.lt g hg).1)⟩, by omega⟩
      rw [show (c + 1).toNat = c.toNat + 1 by omega, List.range_succ, List.map_append]
      exact ho5
    rw [spec_TurnTableau.B9_s]
    refine bif_dec (fun h5 => ?_) (fun h5 => ?_)
    · have hlt : r.toNat < LL.length := by omega
      have hall := ha.grow (hb.trans (hb4.mono hb.size))
      refine RowSS.get hall hr0 (by omega) fun u hu => ?_
      have hun : u.n = (LL.getD r.toNat []).length := by have := hu.n; simpa using this
      rw [hun]
      refine bif_dec (fun h6 => ?_) (fun h6 => ?_)
      · refine RowSS.get hall hr0 (by omega) fun u2 hu2 => ?_
        refine RowI.get hu2 hc0 (by omega) ?_
        have hcl := col_length (LL.take r.toNat) c.toNat
        rw [List.length_take] at hcl
        refine append_int ht4 hb4.size (by omega) ?_
        intro t' w5 ht5 hg5 _
        refine ⟨t', r + 1, by rw [w64_succ hr0 (by omega)], ⟨by omega, by omega, ?_, hb4.grown hg5 hb4.size (fun g hg => (ht4.lt g hg).1)⟩, by omega⟩
        rw [show (r + 1).toNat = r.toNat + 1 by omega, col_succ hlt (by omega)]
        exact ht5
      · exact out (spec_stop hf hlt (by omega))
    · exact out (by rw [show r.toNat = LL.length by omega, List.take_length])
  · refine fin ?_
    have : LL = [] := List.eq_nil_of_length_eq_zero (by omega)
    subst this
    simp; omega

theorem lawC_FnExactTurnTableau (a0 : Sl) (L0 : List (List Int)) (w : World) (ha0 : RowSS w a0 L0) (hbd0 : L0.length ≤ maxLen ∧ ∀ M ∈ L0, M.length ≤ maxLen ∧ ∀ x ∈ M, -9223372036854775808 ≤ x ∧ x ≤ 9223372036854775807) :
    Calls PP F.laws_FnExactTurnTableau #[a0.v] w fun e w' => e = .returned (.bool true) ∧ Below w.heap.size w w' := by
  have han0 := ha0.n
  refine laws_FnExactTurnTableau.calls a0 ?_
  rw [laws_FnExactTurnTableau.E_s]
  have b_0_0 : Below w.heap.size w w := Below.refl _ _
  refine Quiet.call1 (s := .int .i64) (c_szIntSS (ha0.grow b_0_0) hbd0.1 (fun M hM => (hbd0.2 M hM).1) (left := 1048576) (by omega) (by omega)) ?_
  intro w1 hd1
  have s_0 : Below w.heap.size w w1 := hd1.below _
  have b_0_1 := b_0_0.trans (s_0.mono b_0_0.size)
  refine bif_dec (fun h => ⟨rfl, b_0_1⟩) (fun hsz0 => ?_)
  obtain ⟨hz0, ez0⟩ := szW_ok (LL := L0) (by omega) hsz0
  have hn0 : L0.length < 2^38 := by omega
  have htt0 : tot L0 < 2^38 := by omega
  have b_1_1 : Below w1.heap.size w1 w1 := Below.refl _ _
  refine (c_toIntSS (ha0.grow b_0_1) hn0 htt0).mono ?_
  rintro e w2 ⟨xw0, rfl, ⟨rsxw0, hxw0⟩, s_1⟩
  refine ⟨xw0, rfl, ?_⟩
  have b_0_2 := b_0_1.trans (s_1.mono b_0_1.size)
  have b_1_2 := b_1_1.trans (s_1.mono b_1_1.size)
  have b_2_2 : Below w2.heap.size w2 w2 := Below.refl _ _
  refine (c_specTurnTableau (hxw0.row.grow b_2_2) hn0 htt0).mono ?_
  rintro e w3 ⟨w0, rfl, hw0, s_2⟩
  refine ⟨w0, _, rfl, ?_⟩
  have b_0_3 := b_0_2.trans (s_2.mono b_0_2.size)
  have b_1_3 := b_1_2.trans (s_2.mono b_1_2.size)
  have b_2_3 := b_2_2.trans (s_2.mono b_2_2.size)
  have b_3_3 : Below w3.heap.size w3 w3 := Below.refl _ _
  refine (c_toIntSS (ha0.grow b_0_3) hn0 htt0).mono ?_
  rintro e w4 ⟨xx0, rfl, ⟨rsxx0, hxx0⟩, s_3⟩
  refine ⟨xx0, rfl, ?_⟩
  have b_0_4 := b_0_3.trans (s_3.mono b_0_3.size)
  have b_1_4 := b_1_3.trans (s_3.mono b_1_3.size)
  have b_2_4 := b_2_3.trans (s_3.mono b_2_3.size)
  have b_3_4 := b_3_3.trans (s_3.mono b_3_3.size)
  have b_4_4 : Below w4.heap.size w4 w4 := Below.refl _ _
  refine (c_implTurnTableau (hxx0.row.grow b_4_4) hn0 htt0).mono ?_
  rintro e w5 ⟨g0, rfl, ⟨rsg0, hg0⟩, s_4⟩
  refine ⟨g0, _, rfl, ?_⟩
  have b_0_5 := b_0_4.trans (s_4.mono b_0_4.size)
  have b_1_5 := b_1_4.trans (s_4.mono b_1_4.size)
  have b_2_5 := b_2_4.trans (s_4.mono b_2_4.size)
  have b_3_5 := b_3_4.trans (s_4.mono b_3_4.size)
  have b_4_5 := b_4_4.trans (s_4.mono b_4_4.size)
  have b_5_5 : Below w5.heap.size w5 w5 := Below.refl _ _
  have hv0 := TurnTableauV_len L0
  refine Quiet.call1 (s := .bool) (c_eqIntSS (hg0.row.grow b_5_5) (hw0.grow b_3_5) (by omega) (by omega)) ?_
  intro w6 hd6
  have s_5 : Below w5.heap.size w5 w6 := hd6.below _
  have b_0_6 := b_0_5.trans (s_5.mono b_0_5.size)
  have b_1_6 := b_1_5.trans (s_5.mono b_1_5.size)
  have b_2_6 := b_2_5.trans (s_5.mono b_2_5.size)
  have b_3_6 := b_3_5.trans (s_5.mono b_3_5.size)
  have b_4_6 := b_4_5.trans (s_5.mono b_4_5.size)
  have b_5_6 := b_5_5.trans (s_5.mono b_5_5.size)
  refine bif_f (by simp) ?_
  refine bif_f (by simp) ?_
  have b_6_6 : Below w6.heap.size w6 w6 := Below.refl _ _
  refine (c_toIntSS (ha0.grow b_0_6) hn0 htt0).mono ?_
  rintro e w7 ⟨y0, rfl, hy0, s_6⟩
  refine ⟨y0, rfl, ?_⟩
  have b_0_7 := b_0_6.trans (s_6.mono b_0_6.size)
  have b_1_7 := b_1_6.trans (s_6.mono b_1_6.size)
  have b_2_7 := b_2_6.trans (s_6.mono b_2_6.size)
  have b_3_7 := b_3_6.trans (s_6.mono b_3_6.size)
  have b_4_7 := b_4_6.trans (s_6.mono b_4_6.size)
  have b_5_7 := b_5_6.trans (s_6.mono b_5_6.size)
  have b_6_7 := b_6_6.trans (s_6.mono b_6_6.size)
  refine Quiet.call1 (s := .bool) (c_eqIntSS (hxx0.row.grow b_4_7) hy0.row (by omega) (by omega)) ?_
  intro w8 hd8
  have s_7 : Below w7.heap.size w7 w8 := hd8.below _
  have b_0_8 := b_0_7.trans (s_7.mono b_0_7.size)
  have b_1_8 := b_1_7.trans (s_7.mono b_1_7.size)
  have b_2_8 := b_2_7.trans (s_7.mono b_2_7.size)
  have b_3_8 := b_3_7.trans (s_7.mono b_3_7.size)
  have b_4_8 := b_4_7.trans (s_7.mono b_4_7.size)
  have b_5_8 := b_5_7.trans (s_7.mono b_5_7.size)
  have b_6_8 := b_6_7.trans (s_7.mono b_6_7.size)
  refine bif_f (by simp) ?_
  have hxx0m := hxx0.grow b_4_8
  have hg0m := hg0.grow b_5_8
  refine (c_markIntSS hxx0m (by omega) (by omega) (k := 1) (by omega) (by omega)).mono ?_
  rintro e w9 ⟨rfl, _, ks_9, hz_9⟩
  refine ⟨_, rfl, ?_⟩
  have lo_9 : ∀ g, (∃ r ∈ rsxx0, r.blk = some g) → w3.heap.size ≤ g := (fun g e => by obtain ⟨r, hr, e⟩ := e; exact (hxx0.lt hr e).1)
  have hi_9 : ∀ g, (∃ r ∈ rsxx0, r.blk = some g) → g < w4.heap.size := (fun g e => by obtain ⟨r, hr, e⟩ := e; exact (hxx0.lt hr e).2)
  have b_0_9 := b_0_8.trans (ks_9.below (B := w.heap.size) (fun g e => Nat.le_trans b_0_3.size (lo_9 g e)) b_0_8.size)
  have b_1_9 := b_1_8.trans (ks_9.below (B := w1.heap.size) (fun g e => Nat.le_trans b_1_3.size (lo_9 g e)) b_1_8.size)
  have b_2_9 := b_2_8.trans (ks_9.below (B := w2.heap.size) (fun g e => Nat.le_trans b_2_3.size (lo_9 g e)) b_2_8.size)
  have b_3_9 := b_3_8.trans (ks_9.below (B := w3.heap.size) (fun g e => Nat.le_trans b_3_3.size (lo_9 g e)) b_3_8.size)
  have hg0m := hg0m.keepsLt ks_9 (fun g e => by have := hi_9 g e; have := b_4_4.size; omega)
  refine bif_dec (fun h => by omega) (fun h => ?_)
  have b_9_9 : Below w9.heap.size w9 w9 := Below.refl _ _
  have hg0 := hg0m
  refine Quiet.call1 (s := .bool) (c_eqIntSS (hg0.row.grow b_9_9) (hw0.grow b_3_9) (by omega) (by omega)) ?_
  intro w10 hd10
  have s_9 : Below w9.heap.size w9 w10 := hd10.below _
  have b_0_10 := b_0_9.trans (s_9.mono b_0_9.size)
  have b_1_10 := b_1_9.trans (s_9.mono b_1_9.size)
  have b_2_10 := b_2_9.trans (s_9.mono b_2_9.size)
  have b_3_10 := b_3_9.trans (s_9.mono b_3_9.size)
  have b_9_10 := b_9_9.trans (s_9.mono b_9_9.size)
  refine bif_f (by simp) ?_
  refine bif_f (by simp) ?_
  have hg0p := hg0.grow b_9_10
  have b_10_10 : Below w10.heap.size w10 w10 := Below.refl _ _
  refine (c_markIntSS hg0p (by omega) (by omega) (k := 1) (by omega) (by omega)).mono ?_
  rintro e w11 ⟨rfl, hq0, ks_11, hz_11⟩
  refine ⟨_, rfl, ?_⟩
  have lo_11 : ∀ g, (∃ r ∈ rsg0, r.blk = some g) → w4.heap.size ≤ g := (fun g e => by obtain ⟨r, hr, e⟩ := e; exact (hg0p.lt hr e).1)
  have b_0_11 := b_0_10.trans (ks_11.below (B := w.heap.size) (fun g e => Nat.le_trans b_0_4.size (lo_11 g e)) b_0_10.size)
  have b_1_11 := b_1_10.trans (ks_11.below (B := w1.heap.size) (fun g e => Nat.le_trans b_1_4.size (lo_11 g e)) b_1_10.size)
  have b_2_11 := b_2_10.trans (ks_11.below (B := w2.heap.size) (fun g e => Nat.le_trans b_2_4.size (lo_11 g e)) b_2_10.size)
  have b_3_11 := b_3_10.trans (ks_11.below (B := w3.heap.size) (fun g e => Nat.le_trans b_3_4.size (lo_11 g e)) b_3_10.size)
  have b_11_11 : Below w11.heap.size w11 w11 := Below.refl _ _
  refine Quiet.call1 (s := .int .i64) (c_heldIntSS (LL := TurnTableauV L0) (hq0.row.grow b_11_11) (by omega) (by omega) (by omega) (by omega)) ?_
  intro w12 hd12
  have s_11 : Below w11.heap.size w11 w12 := hd12.below _
  have b_0_12 := b_0_11.trans (s_11.mono b_0_11.size)
  have b_1_12 := b_1_11.trans (s_11.mono b_1_11.size)
  have b_2_12 := b_2_11.trans (s_11.mono b_2_11.size)
  have b_3_12 := b_3_11.trans (s_11.mono b_3_11.size)
  have b_11_12 := b_11_11.trans (s_11.mono b_11_11.size)
  refine bif_dec (fun h => by omega) (fun h => ?_)
  refine bif_f (by simp) ?_
  have b_12_12 : Below w12.heap.size w12 w12 := Below.refl _ _
  refine (c_toIntSS (ha0.grow b_0_12) hn0 htt0).mono ?_
  rintro e w13 ⟨xv0, rfl, ⟨rsxv0, hxv0⟩, s_12⟩
  refine ⟨xv0, rfl, ?_⟩
  have b_0_13 := b_0_12.trans (s_12.mono b_0_12.size)
  have b_1_13 := b_1_12.trans (s_12.mono b_1_12.size)
  have b_2_13 := b_2_12.trans (s_12.mono b_2_12.size)
  have b_3_13 := b_3_12.trans (s_12.mono b_3_12.size)
  have b_11_13 := b_11_12.trans (s_12.mono b_11_12.size)
  have b_12_13 := b_12_12.trans (s_12.mono b_12_12.size)
  have b_13_13 : Below w13.heap.size w13 w13 := Below.refl _ _
  refine (c_implTurnTableau (hxv0.row.grow b_13_13) hn0 htt0).mono ?_
  rintro e w14 ⟨h0, rfl, ⟨rsh0, hh0⟩, s_13⟩
  refine ⟨h0, _, rfl, ?_⟩
  have b_0_14 := b_0_13.trans (s_13.mono b_0_13.size)
  have b_1_14 := b_1_13.trans (s_13.mono b_1_13.size)
  have b_2_14 := b_2_13.trans (s_13.mono b_2_13.size)
  have b_3_14 := b_3_13.trans (s_13.mono b_3_13.size)
  have b_11_14 := b_11_13.trans (s_13.mono b_11_13.size)
  have b_12_14 := b_12_13.trans (s_13.mono b_12_13.size)
  have b_13_14 := b_13_13.trans (s_13.mono b_13_13.size)
  have b_14_14 : Below w14.heap.size w14 w14 := Below.refl _ _
  refine Quiet.call1 (s := .bool) (c_eqIntSS (hh0.row.grow b_14_14) (hw0.grow b_3_14) (by omega) (by omega)) ?_
  intro w15 hd15
  have s_14 : Below w14.heap.size w14 w15 := hd15.below _
  have b_0_15 := b_0_14.trans (s_14.mono b_0_14.size)
  have b_1_15 := b_1_14.trans (s_14.mono b_1_14.size)
  have b_2_15 := b_2_14.trans (s_14.mono b_2_14.size)
  have b_3_15 := b_3_14.trans (s_14.mono b_3_14.size)
  have b_11_15 := b_11_14.trans (s_14.mono b_11_14.size)
  have b_12_15 := b_12_14.trans (s_14.mono b_12_14.size)
  have b_13_15 := b_13_14.trans (s_14.mono b_13_14.size)
  have b_14_15 := b_14_14.trans (s_14.mono b_14_14.size)
  refine bif_f (by simp) ?_
  refine bif_f (by simp) ?_
  refine Quiet.call1 (s := .int .i64) (c_heldIntSS (LL := TurnTableauV L0) (hq0.row.grow b_11_15) (by omega) (by omega) (by omega) (by omega)) ?_
  intro w16 hd16
  have s_15 : Below w15.heap.size w15 w16 := hd16.below _
  have b_0_16 := b_0_15.trans (s_15.mono b_0_15.size)
  have b_1_16 := b_1_15.trans (s_15.mono b_1_15.size)
  have b_2_16 := b_2_15.trans (s_15.mono b_2_15.size)
  have b_3_16 := b_3_15.trans (s_15.mono b_3_15.size)
  have b_11_16 := b_11_15.trans (s_15.mono b_11_15.size)
  have b_12_16 := b_12_15.trans (s_15.mono b_12_15.size)
  have b_13_16 := b_13_15.trans (s_15.mono b_13_15.size)
  have b_14_16 := b_14_15.trans (s_15.mono b_14_15.size)
  refine bif_dec (fun h => by omega) (fun h => ?_)
  refine bif_f (by simp) ?_
  exact ⟨rfl, b_0_16⟩
end Go.Proofs.Ytfainpmcdfckkaa
