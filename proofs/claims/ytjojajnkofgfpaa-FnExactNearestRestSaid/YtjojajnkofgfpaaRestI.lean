/- DescendingRest and NearestRest: the program's text, and the laws. -/
import Derived.Test.YtjojajnkofgfpaaRest
import Derived.Test.YtjojajnkofgfpaaLaw2
namespace Go.Proofs.Ytjojajnkofgfpaa
open Go Go.RowKit
set_option maxRecDepth 100000

theorem ne_bool_int : T_bool ≠ T_int := by decide
/-- A function value that picks a place. -/
def Picks (w0 : World) (f : Value) (pk : List Int → Int → Nat) : Prop := ∀ (w : World) (l : Sl) (R : List Int) (low : Int), Below w0.heap.size w0 w → RowI w l R → pk R low < R.length → R.length ≤ 8 → ∀ K : Int → World → Prop, (∀ w', Below w.heap.size w w' → K (pk R low : Nat) w') → callV1 (.int .i64) PP f [l.v, vI low] w K
theorem picks_D (w0 : World) : Picks w0 (.func (.func F.impl_DescendingRestL1) #[] #[]) pkD := by
  intro w l R low _ hl hp h8 K hk
  have hn : l.n = R.length := by have := hl.n; simpa using this
  refine ⟨_, _, _, rfl, by kernel_rfl, ?_⟩
  show Calls PP F.impl_DescendingRestL1 #[l.v, vI low] w _
  refine impl_DescendingRestL1.calls l low ?_
  rw [impl_DescendingRestL1.E_s, hn]
  unfold pkD at hp
  refine ⟨_, rfl, ?_⟩
  have e : w64 ((R.length : Int) - 1) = (pkD R low : Nat) := by rw [w64_id (by omega) (by omega), pkD]; omega
  rw [e]
  exact hk w (Below.refl _ _)
theorem c_gt {w0 : World} {p : Addr} {low : Int} (hp : w0.cell? p = some (vI low)) (x : Int) : FnB w0 (.func (.func F.impl_NearestRestL1L1) #[] #[.pointer (some p)]) [vI x] (decide (x > low)) := by
  intro w hb
  refine ⟨_, _, _, rfl, by kernel_rfl, ?_⟩
  show Calls PP F.impl_NearestRestL1L1 #[vI x, .pointer (some p)] w _
  refine impl_NearestRestL1L1.calls x p ?_
  rw [impl_NearestRestL1L1.E_s]
  refine load_int (cell_grow hp hb) ?_
  exact ⟨rfl, Below.refl _ _⟩
theorem picks_N (w0 : World) : Picks w0 (.func (.func F.impl_NearestRestL1) #[] #[]) pkN := by
  intro w l R low _ hl hp h8 K hk
  refine ⟨_, _, _, rfl, by kernel_rfl, ?_⟩
  show Calls PP F.impl_NearestRestL1 #[l.v, vI low] w _
  refine impl_NearestRestL1.calls l low ?_
  rw [impl_NearestRestL1.E_s]
  refine new_one ?_
  intro ad w1 hc hb1
  refine (c_IndexFuncI (hl.grow hb1) (by omega) (φ := fun v => decide (v > low)) (fun x _ => c_gt hc x)).mono ?_
  rintro e w2 ⟨rfl, hb2⟩
  refine ⟨_, rfl, _, rfl, ?_⟩
  have e : idxF (fun v => decide (v > low)) R = (pkN R low : Nat) := by
    unfold idxF
    unfold pkN at hp ⊢
    rw [if_pos hp]
  rw [e]
  exact hk w2 (hb1.trans (hb2.mono hb1.size))
theorem stO_drop {pk : List Int → Int → Nat} {L : List Int} {k : Nat} (hk : k < L.length) (h : isLow L k = true) : stO pk L (k + 1) ++ L.drop (k + 1) = stO pk L k ++ L.drop k := by
  rw [stO, if_pos h, List.append_assoc, List.singleton_append, List.drop_eq_getElem_cons hk, getD_lt hk]
theorem stO_set {pk : List Int → Int → Nat} {L : List Int} {k : Nat} (hk : k < L.length) (h : isLow L k = false) : (stO pk L k ++ L.drop k).set k ((stR pk L k).getD (pk (stR pk L k) (lastLow L k)) 0) = stO pk L (k + 1) ++ L.drop (k + 1) := by
  have hl := stO_length pk L k
  rw [stO, if_neg (by rw [h]; simp), List.append_assoc, List.singleton_append, List.drop_eq_getElem_cons hk]
  rw [List.set_append_right _ _ (by omega), hl, Nat.sub_self, List.set_cons_zero]
theorem c_rest {w : World} {a : Sl} {L : List Int} (ha : RowI w a L) (hP : IsP L) {pk : List Int → Int → Nat} (hok : PkOk pk L) {f : Value} (hf : Picks w f pk) :
    Calls PP F.impl_rest #[a.v, f] w fun e w' => ∃ s : Sl, e = .returned s.v ∧ OwnI w' w.heap.size s (stO pk L L.length) ∧ Below w.heap.size w w' := by
  have han : a.n = L.length := by have := ha.n; simpa using this
  have h8 := hP.1
  refine impl_rest.calls a f ?_
  rw [impl_rest.E_s, han]
  refine (c_Clone ha (by omega)).mono ?_
  rintro e w1 ⟨o, rfl, ho, hb1⟩
  refine ⟨o, rfl, ?_⟩
  refine lit0 oneInt (B := w.heap.size) hb1.size ?_
  intro le w2 hle hg2 hlc
  have hb12 := below_of_grow hg2
  have hb2 := hb1.trans (hb12.mono hb1.size)
  refine make_own oneBool (B := w.heap.size) hb2.size (by omega) (by omega) ?_
  intro is w3 his hg3 _
  have hb23 := below_of_grow hg3
  have hb3 := hb2.trans (hb23.mono hb2.size)
  refine (c_implLowsOf (ha.grow hb3) (by omega)).mono ?_
  rintro e w4 ⟨lo, rfl, hlo, hb34⟩
  refine ⟨lo, rfl, ?_⟩
  rw [LowsV, if_pos hP] at hlo
  have hb4 := hb3.trans (hb34.mono hb3.size)
  have hll := lowsT_length L L.length
  have hlon : lo.n = (lowsT L L.length).length := by have := hlo.n; simpa using this
  have ho4 : OwnI w4 w.heap.size o L := ((ho.grow hb12).grow hb23).grow hb34
  have hle4 : OwnI w4 w.heap.size le [] := (Own.grow (Own.grow hle hb23) hb34)
  have his4 : Own w4 w.heap.size T_bool is ((List.replicate L.length false).map Value.bool) := by
    have := Own.grow his hb34
    simpa using this
  have hap : Apt o le := fun g _ h2 => by rw [Sl.blk, if_pos hlc] at h2; cases h2
  rw [hlon]
  refine impl_rest.L5_rule _ _ _ _ _ _ _ _ _ _ (I := fun t w' => 0 ≤ t ∧ t ≤ (lowsT L L.length).length ∧ Below w.heap.size w w' ∧ OwnI w' w.heap.size o L ∧ OwnI w' w.heap.size le [] ∧ OwnI w' w3.heap.size lo (lowsT L L.length) ∧
      ∃ bs : List Bool, bs.length = L.length ∧ Own w' w.heap.size T_bool is (bs.map Value.bool) ∧ ∀ j, j < L.length → bs.getD j false = decide ((j : Int) + 1 ∈ (lowsT L L.length).take t.toNat)) (μ := fun t _ => ((lowsT L L.length).length - t).toNat)
    ⟨by omega, by omega, hb4, ho4, hle4, hlo, List.replicate L.length false, by simp, his4, fun j hj => by simp [List.getD_eq_getElem?_getD, List.getElem?_replicate, hj]⟩ ?_
  rintro t w5 ⟨ht0, ht, hb5, ho5, hle5, hlo5, bs, hbl, his5, hbs⟩
  rw [impl_rest.B5_s]
  refine bif_dec (fun h3 => ?_) (fun h3 => ?_)
  · have hlt : t.toNat < (lowsT L L.length).length := by omega
    have et : (t + 1).toNat = t.toNat + 1 := by omega
    refine RowI.get (Own.row hlo5) ht0 (by omega) ?_
    rw [getD_lt hlt]
    have hx := mem_lowsT.1 (List.getElem_mem hlt)
    have hsn := List.take_succ_eq_append_getElem hlt
    generalize (lowsT L L.length)[t.toNat] = x at hx hsn
    rw [w64_id (n := x - 1) (by omega) (by omega)]
    refine Own.put his5 (by omega) (by simp; omega) ?_
    intro w6 his6 hg6 _
    have hb6 := hb5.grown hg6 hb5.size (fun g hg => (his5.lt g hg).1)
    refine ⟨t + 1, by rw [w64_succ ht0 (by omega)], ⟨by omega, by omega, hb6, ho5.kept hg6 (fun g e1 e2 => (ho5.apt his5 ne_bool_int.symm) g e1 e2), hle5.kept hg6 (fun g e1 e2 => (hle5.apt his5 ne_bool_int.symm) g e1 e2), hlo5.kept hg6 (fun g e1 e2 => (hlo5.apt his5 ne_bool_int.symm) g e1 e2),
      bs.set (x - 1).toNat true, by simpa using hbl, by simpa [List.map_set] using his6, fun j hj => ?_⟩, by omega⟩
    rw [et, hsn]
    by_cases e : j = (x - 1).toNat
    · subst e
      rw [decide_eq_true (by rw [List.mem_append]; right; simp; omega)]
      have hxl : (x - 1).toNat < bs.length := by omega
      simp only [List.getD_eq_getElem?_getD, List.getElem?_set, if_pos hxl]
      simp
    · have e1 : (bs.set (x - 1).toNat true).getD j false = bs.getD j false := by
        simp only [List.getD_eq_getElem?_getD, List.getElem?_set]
        rw [if_neg (fun h => e h.symm)]
      rw [e1, hbs j hj]
      refine decide_eq_decide.2 ⟨fun h => List.mem_append.2 (.inl h), fun h => ?_⟩
      rcases List.mem_append.1 h with h | h
      · exact h
      · have : (j : Int) + 1 = x := by simpa using h
        omega
  · rw [impl_rest.A5_0_s, han]
    rw [show t.toNat = (lowsT L L.length).length by omega, List.take_length] at hbs
    have hbs : ∀ j, j < L.length → bs.getD j false = isLow L j := fun j hj => by rw [hbs j hj, has_low hj]
    refine impl_rest.L10_rule _ _ _ _ _ _ _ _ _ _ (I := fun le k w' => 0 ≤ k ∧ k ≤ L.length ∧ Below w.heap.size w w' ∧ OwnI w' w.heap.size o L ∧ OwnI w' w.heap.size le (nonL L k.toNat) ∧ Apt o le ∧ Own w' w.heap.size T_bool is (bs.map Value.bool)) (μ := fun _ k _ => (L.length - k).toNat)
      ⟨by omega, by omega, hb5, ho5, hle5, hap, his5⟩ ?_
    rintro le k w6 ⟨hk0, hk, hb6, ho6, hle6, hap6, his6⟩
    rw [impl_rest.B10_s]
    refine bif_dec (fun h4 => ?_) (fun h4 => ?_)
    · obtain ⟨k, rfl⟩ : ∃ m : Nat, k = m := ⟨k.toNat, by omega⟩
      have hlt : k < L.length := by omega
      rw [Int.toNat_natCast] at hle6
      have ek : ((k : Int) + 1).toNat = k + 1 := by omega
      have hnl := nonL_len L k
      refine RowI.get (ha.grow hb6) hk0 (by omega) ?_
      rw [Int.toNat_natCast]
      have hval : (bs.map Value.bool)[(k : Int).toNat]? = some (Sh.bool.enc (isLow L k)) := by
        rw [← hbs k hlt, Int.toNat_natCast]
        simp [List.getD_eq_getElem?_getD, List.getElem?_eq_getElem (show k < bs.length by omega)]
      refine Row.get (sh := .bool) his6.row hk0 hval ?_
      rw [w64_succ hk0 (by omega)]
      refine bif_intro (fun h6 => ?_) (fun h6 => ?_)
      · have h6 : isLow L k = false := by simpa using h6
        refine append_int hle6 hb6.size (by omega) ?_
        intro le' w7 hle7 hg7 hn7
        refine ⟨le', (k : Int) + 1, rfl, ⟨by omega, by omega, hb6.grown hg7 hb6.size (fun g hg => (hle6.lt g hg).1), Own.keeps ho6 (keeps_grown hg7) (fun g e1 e2 => hap6 g e1 e2), ?_, (hap6.symm.next hn7 (fun g hg => (ho6.lt g hg).2)).symm, his6.kept hg7 fun g e1 e2 => (his6.apt hle6 ne_bool_int) g e1 e2⟩, by omega⟩
        rw [ek, nonL, if_neg (by rw [h6]; simp)]; exact hle7
      · have h6 : isLow L k = true := by simpa using h6
        refine ⟨le, (k : Int) + 1, rfl, ⟨by omega, by omega, hb6, ho6, ?_, hap6, his6⟩, by omega⟩
        rw [ek, nonL, if_pos h6]; exact hle6
    · rw [impl_rest.A10_2_s, han]
      rw [show k.toNat = L.length by omega] at hle6
      have hnl := nonL_len L L.length
      refine c_Sort hle6 (by omega) fun w7 hle7 hg7 => ?_
      have hb7 := hb6.grown hg7 hb6.size (fun g hg => (hle6.lt g hg).1)
      have ho7 : OwnI w7 w.heap.size o L := Own.keeps ho6 (keeps_grown hg7) (fun g e1 e2 => hap6 g e1 e2)
      have his7 : Own w7 w.heap.size T_bool is (bs.map Value.bool) := his6.kept hg7 fun g e1 e2 => (his6.apt hle6 ne_bool_int) g e1 e2
      refine impl_rest.L18_rule _ _ _ _ _ _ _ _ _ _ (I := fun le low k w' => 0 ≤ k ∧ k ≤ L.length ∧ Below w.heap.size w w' ∧ low = lastLow L k.toNat ∧ OwnI w' w.heap.size o (stO pk L k.toNat ++ L.drop k.toNat) ∧ OwnI w' w.heap.size le (stR pk L k.toNat) ∧ Apt o le ∧ Own w' w.heap.size T_bool is (bs.map Value.bool)) (μ := fun _ _ k _ => (L.length - k).toNat)
        ⟨by omega, by omega, hb7, rfl, by simpa [stO] using ho7, hle7, hap6, his7⟩ ?_
      rintro le low k w8 ⟨hk0, hk, hb8, hlow, ho8, hle8, hap8, his8⟩
      rw [impl_rest.B18_s]
      refine bif_dec (fun h5 => ?_) (fun h5 => ?_)
      · obtain ⟨k, rfl⟩ : ∃ m : Nat, k = m := ⟨k.toNat, by omega⟩
        have hlt : k < L.length := by omega
        rw [Int.toNat_natCast] at hle8 ho8 hlow
        have ek : ((k : Int) + 1).toNat = k + 1 := by omega
        have hol := stO_length pk L k
        refine RowI.get (ha.grow hb8) hk0 (by omega) ?_
        rw [Int.toNat_natCast]
        have hval : (bs.map Value.bool)[(k : Int).toNat]? = some (Sh.bool.enc (isLow L k)) := by
          rw [← hbs k hlt, Int.toNat_natCast]
          simp [List.getD_eq_getElem?_getD, List.getElem?_eq_getElem (show k < bs.length by omega)]
        refine Row.get (sh := .bool) his8.row hk0 hval ?_
        rw [w64_succ hk0 (by omega)]
        refine bif_intro (fun h6 => ?_) (fun h6 => ?_)
        · refine ⟨le, L.getD k 0, (k : Int) + 1, rfl, ⟨by omega, by omega, hb8, ?_, ?_, ?_, hap8, his8⟩, by omega⟩
          · rw [ek, lastLow, if_pos h6]
          · rw [ek, stO_drop hlt h6]; exact ho8
          · rw [ek, stR, if_pos h6]; exact hle8
        · have hp := hok k hlt h6
          have hr8 := stR_len8 hP hok (k := k) (by omega)
          subst hlow
          refine hf w8 le _ _ hb8 (Own.row hle8) hp hr8 _ fun w9 hb9 => ?_
          have hb89 := hb8.trans (hb9.mono hb8.size)
          have ho9 := Own.grow ho8 hb9
          have hle9 : OwnI w9 w.heap.size le (stR pk L k) := Own.grow hle8 hb9
          have his9 := Own.grow his8 hb9
          refine RowI.get (Own.row hle9) (by omega) (by omega) ?_
          rw [Int.toNat_natCast]
          refine Own.put ho9 (by omega) (by rw [List.length_map, List.length_append, List.length_drop]; omega) ?_
          intro w10 ho10 hg10 _
          have hb10 := hb89.grown hg10 hb89.size (fun g hg => (ho9.lt g hg).1)
          have hle10 : OwnI w10 w.heap.size le (stR pk L k) := Own.keeps hle9 (keeps_grown hg10) (fun g e1 e2 => hap8 g e2 e1)
          have his10 := his9.kept hg10 fun g e1 e2 => (his9.apt ho9 ne_bool_int) g e1 e2
          rw [Int.toNat_natCast, ← List.map_set, stO_set hlt h6] at ho10
          rw [w64_succ (by omega) (by omega)]
          refine (c_Delete hle10 hb10.size (by omega) (by omega) (by omega)).mono ?_
          rintro e w11 ⟨le', rfl, hle11, hg11, hn11⟩
          refine ⟨le', rfl, ?_⟩
          refine ⟨le', lastLow L k, (k : Int) + 1, rfl, ⟨by omega, by omega, hb10.grown hg11 hb10.size (fun g hg => (hle10.lt g hg).1), ?_, ?_, ?_, (hap8.symm.next hn11 (fun g hg => (ho10.lt g hg).2)).symm, his10.kept hg11 fun g e1 e2 => (his10.apt hle10 ne_bool_int) g e1 e2⟩, by omega⟩
          · rw [ek, lastLow, if_neg (by rw [h6]; simp)]
          · rw [ek]; exact Own.keeps ho10 (keeps_grown hg11) (fun g e1 e2 => hap8 g e1 e2)
          · rw [ek, stR, if_neg (by rw [h6]; simp), erase_eq]
            rw [Int.toNat_natCast] at hle11
            exact hle11
      · rw [impl_rest.A18_4_s]
        rw [show k.toNat = L.length by omega, List.drop_of_length_le (by omega), List.append_nil] at ho8
        exact ⟨o, rfl, ho8, hb8⟩
open Classical in
theorem c_implDescendingRest {w : World} {a : Sl} {L : List Int} (ha : RowI w a L) (hL : L.length < 2^38) :
    Calls PP F.impl_DescendingRest #[a.v] w fun e w' => ∃ s : Sl, e = .returned (.tuple #[s.v, .bool (decide (IsP L))]) ∧ OwnI w' w.heap.size s (RestV pkD L) ∧ Below w.heap.size w w' := by
  refine impl_DescendingRest.calls a ?_
  rw [impl_DescendingRest.E_s]
  refine (c_implIsPerm ha hL).mono ?_
  rintro e w1 ⟨rfl, hb1⟩
  refine ⟨_, rfl, ?_⟩
  refine bif_intro (fun h => ?_) (fun h => ?_)
  · have h : ¬ IsP L := by simpa using h
    exact ⟨Sl.nil, by rw [decide_eq_false h], by rw [RestV, if_neg h]; exact Own.nil _ _ _, hb1⟩
  have hP : IsP L := by simpa using h
  refine (c_rest (ha.grow hb1) hP (pkOk_D L) (picks_D w1)).mono ?_
  rintro e w2 ⟨s, rfl, hs, hb2⟩
  exact ⟨s, rfl, s, by rw [decide_eq_true hP], by rw [RestV, if_pos hP]; exact Own.mono hs hb1.size, hb1.trans (hb2.mono hb1.size)⟩
open Classical in
theorem c_implNearestRest {w : World} {a : Sl} {L : List Int} (ha : RowI w a L) (hL : L.length < 2^38) :
    Calls PP F.impl_NearestRest #[a.v] w fun e w' => ∃ s : Sl, e = .returned (.tuple #[s.v, .bool (decide (IsP L))]) ∧ OwnI w' w.heap.size s (RestV pkN L) ∧ Below w.heap.size w w' := by
  refine impl_NearestRest.calls a ?_
  rw [impl_NearestRest.E_s]
  refine (c_implIsPerm ha hL).mono ?_
  rintro e w1 ⟨rfl, hb1⟩
  refine ⟨_, rfl, ?_⟩
  refine bif_intro (fun h => ?_) (fun h => ?_)
  · have h : ¬ IsP L := by simpa using h
    exact ⟨Sl.nil, by rw [decide_eq_false h], by rw [RestV, if_neg h]; exact Own.nil _ _ _, hb1⟩
  have hP : IsP L := by simpa using h
  refine (c_rest (ha.grow hb1) hP (pkOk_N L) (picks_N w1)).mono ?_
  rintro e w2 ⟨s, rfl, hs, hb2⟩
  exact ⟨s, rfl, s, by rw [decide_eq_true hP], by rw [RestV, if_pos hP]; exact Own.mono hs hb1.size, hb1.trans (hb2.mono hb1.size)⟩
noncomputable abbrev DescendingRestV (L : List Int) : List Int := RestV pkD L
open Classical in
noncomputable abbrev DescendingRestV1 (L : List Int) : Bool := decide (IsP L)
theorem DescendingRestV_len (L : List Int) : (DescendingRestV L).length < 2^38 := RestV_len pkD L
noncomputable abbrev NearestRestV (L : List Int) : List Int := RestV pkN L
open Classical in
noncomputable abbrev NearestRestV1 (L : List Int) : Bool := decide (IsP L)
theorem NearestRestV_len (L : List Int) : (NearestRestV L).length < 2^38 := RestV_len pkN L

theorem lawC_FnExactDescendingRest (a0 : Sl) (L0 : List Int) (w : World) (ha0 : RowI w a0 L0) (hbd0 : ∀ x ∈ L0, -9223372036854775808 ≤ x ∧ x ≤ 9223372036854775807) :
    Calls PP F.laws_FnExactDescendingRest #[a0.v] w fun e w' => e = .returned (.bool true) ∧ Below w.heap.size w w' := by
  have han0 : a0.n = L0.length := by have := ha0.n; simpa using this
  refine laws_FnExactDescendingRest.calls a0 ?_
  rw [laws_FnExactDescendingRest.E_s]
  have b_0_0 : Below w.heap.size w w := Below.refl _ _
  refine bif_dec (fun h => ⟨rfl, b_0_0⟩) (fun h0s => ?_)
  have hL0 : L0.length < 2 ^ 38 := by omega
  refine (c_toIntS (ha0.grow b_0_0) (by omega)).mono ?_
  rintro e w1 ⟨xw0, rfl, hxw0, s_0⟩
  refine ⟨xw0, rfl, ?_⟩
  have b_0_1 := b_0_0.trans (s_0.mono b_0_0.size)
  have b_1_1 : Below w1.heap.size w1 w1 := Below.refl _ _
  refine (c_specDescendingRest (hxw0.row.grow b_1_1) (by omega)).mono ?_
  rintro e w2 ⟨w0, rfl, hw0, s_1⟩
  refine ⟨w0, _, rfl, ?_⟩
  have b_0_2 := b_0_1.trans (s_1.mono b_0_1.size)
  have b_1_2 := b_1_1.trans (s_1.mono b_1_1.size)
  have b_2_2 : Below w2.heap.size w2 w2 := Below.refl _ _
  refine (c_toIntS (ha0.grow b_0_2) (by omega)).mono ?_
  rintro e w3 ⟨xx0, rfl, hxx0, s_2⟩
  refine ⟨xx0, rfl, ?_⟩
  have b_0_3 := b_0_2.trans (s_2.mono b_0_2.size)
  have b_1_3 := b_1_2.trans (s_2.mono b_1_2.size)
  have b_2_3 := b_2_2.trans (s_2.mono b_2_2.size)
  have b_3_3 : Below w3.heap.size w3 w3 := Below.refl _ _
  refine (c_implDescendingRest (hxx0.row.grow b_3_3) (by omega)).mono ?_
  rintro e w4 ⟨g0, rfl, hg0, s_3⟩
  refine ⟨g0, _, rfl, ?_⟩
  have b_0_4 := b_0_3.trans (s_3.mono b_0_3.size)
  have b_1_4 := b_1_3.trans (s_3.mono b_1_3.size)
  have b_2_4 := b_2_3.trans (s_3.mono b_2_3.size)
  have b_3_4 := b_3_3.trans (s_3.mono b_3_3.size)
  have b_4_4 : Below w4.heap.size w4 w4 := Below.refl _ _
  have hv0 : (RestV pkD L0).length < 2^38 := DescendingRestV_len L0
  refine Quiet.call1 (s := .bool) (c_eqIntS (hg0.row.grow b_4_4) (hw0.grow b_2_4) (by omega)) ?_
  intro w5 hd5
  have s_4 : Below w4.heap.size w4 w5 := hd5.below _
  have b_0_5 := b_0_4.trans (s_4.mono b_0_4.size)
  have b_1_5 := b_1_4.trans (s_4.mono b_1_4.size)
  have b_2_5 := b_2_4.trans (s_4.mono b_2_4.size)
  have b_3_5 := b_3_4.trans (s_4.mono b_3_4.size)
  have b_4_5 := b_4_4.trans (s_4.mono b_4_4.size)
  refine bif_f (by simp) ?_
  refine bif_f (by simp) ?_
  have b_5_5 : Below w5.heap.size w5 w5 := Below.refl _ _
  refine (c_toIntS (ha0.grow b_0_5) (by omega)).mono ?_
  rintro e w6 ⟨y0, rfl, hy0, s_5⟩
  refine ⟨y0, rfl, ?_⟩
  have b_0_6 := b_0_5.trans (s_5.mono b_0_5.size)
  have b_1_6 := b_1_5.trans (s_5.mono b_1_5.size)
  have b_2_6 := b_2_5.trans (s_5.mono b_2_5.size)
  have b_3_6 := b_3_5.trans (s_5.mono b_3_5.size)
  have b_4_6 := b_4_5.trans (s_5.mono b_4_5.size)
  have b_5_6 := b_5_5.trans (s_5.mono b_5_5.size)
  refine Quiet.call1 (s := .bool) (c_eqIntS (hxx0.row.grow b_3_6) hy0.row (by omega)) ?_
  intro w7 hd7
  have s_6 : Below w6.heap.size w6 w7 := hd7.below _
  have b_0_7 := b_0_6.trans (s_6.mono b_0_6.size)
  have b_1_7 := b_1_6.trans (s_6.mono b_1_6.size)
  have b_2_7 := b_2_6.trans (s_6.mono b_2_6.size)
  have b_3_7 := b_3_6.trans (s_6.mono b_3_6.size)
  have b_4_7 := b_4_6.trans (s_6.mono b_4_6.size)
  have b_5_7 := b_5_6.trans (s_6.mono b_5_6.size)
  refine bif_f (by simp) ?_
  have hxx0m := hxx0.grow b_3_7
  have hg0m := hg0.grow b_4_7
  refine (c_markIntS hxx0m (by omega) (k := 1) (by omega) (by omega)).mono ?_
  rintro e w8 ⟨rfl, _, hg_8, hz_8⟩
  have ks_8 := keeps_grown hg_8
  refine ⟨_, rfl, ?_⟩
  have lo_8 : ∀ g, xx0.blk = some g → w2.heap.size ≤ g := (fun g e => (hxx0.lt g e).1)
  have hi_8 : ∀ g, xx0.blk = some g → g < w3.heap.size := (fun g e => (hxx0.lt g e).2)
  have b_0_8 := b_0_7.trans (ks_8.below (B := w.heap.size) (fun g e => Nat.le_trans b_0_2.size (lo_8 g e)) b_0_7.size)
  have b_1_8 := b_1_7.trans (ks_8.below (B := w1.heap.size) (fun g e => Nat.le_trans b_1_2.size (lo_8 g e)) b_1_7.size)
  have b_2_8 := b_2_7.trans (ks_8.below (B := w2.heap.size) (fun g e => Nat.le_trans b_2_2.size (lo_8 g e)) b_2_7.size)
  have hg0m := hg0m.keeps ks_8 (fun g e1 e2 => by have := hi_8 g e2; have := (hg0.lt g e1).1; have := b_3_3.size; omega)
  refine bif_dec (fun h => by omega) (fun h => ?_)
  have b_8_8 : Below w8.heap.size w8 w8 := Below.refl _ _
  have hg0 := hg0m
  refine Quiet.call1 (s := .bool) (c_eqIntS (hg0.row.grow b_8_8) (hw0.grow b_2_8) (by omega)) ?_
  intro w9 hd9
  have s_8 : Below w8.heap.size w8 w9 := hd9.below _
  have b_0_9 := b_0_8.trans (s_8.mono b_0_8.size)
  have b_1_9 := b_1_8.trans (s_8.mono b_1_8.size)
  have b_2_9 := b_2_8.trans (s_8.mono b_2_8.size)
  have b_8_9 := b_8_8.trans (s_8.mono b_8_8.size)
  refine bif_f (by simp) ?_
  refine bif_f (by simp) ?_
  have hg0p := hg0.grow b_8_9
  have b_9_9 : Below w9.heap.size w9 w9 := Below.refl _ _
  refine (c_markIntS hg0p (by omega) (k := 1) (by omega) (by omega)).mono ?_
  rintro e w10 ⟨rfl, hq0, hg_10, hz_10⟩
  have ks_10 := keeps_grown hg_10
  refine ⟨_, rfl, ?_⟩
  have lo_10 : ∀ g, g0.blk = some g → w3.heap.size ≤ g := (fun g e => (hg0p.lt g e).1)
  have b_0_10 := b_0_9.trans (ks_10.below (B := w.heap.size) (fun g e => Nat.le_trans b_0_3.size (lo_10 g e)) b_0_9.size)
  have b_1_10 := b_1_9.trans (ks_10.below (B := w1.heap.size) (fun g e => Nat.le_trans b_1_3.size (lo_10 g e)) b_1_9.size)
  have b_2_10 := b_2_9.trans (ks_10.below (B := w2.heap.size) (fun g e => Nat.le_trans b_2_3.size (lo_10 g e)) b_2_9.size)
  have b_10_10 : Below w10.heap.size w10 w10 := Below.refl _ _
  refine Quiet.call1 (s := .int .i64) (c_heldIntS (n := (RestV pkD L0).length) (hq0.row.grow b_10_10) (by omega) (by omega) (by omega)) ?_
  intro w11 hd11
  have s_10 : Below w10.heap.size w10 w11 := hd11.below _
  have b_0_11 := b_0_10.trans (s_10.mono b_0_10.size)
  have b_1_11 := b_1_10.trans (s_10.mono b_1_10.size)
  have b_2_11 := b_2_10.trans (s_10.mono b_2_10.size)
  have b_10_11 := b_10_10.trans (s_10.mono b_10_10.size)
  refine bif_dec (fun h => by omega) (fun h => ?_)
  refine bif_f (by simp) ?_
  have b_11_11 : Below w11.heap.size w11 w11 := Below.refl _ _
  refine (c_toIntS (ha0.grow b_0_11) (by omega)).mono ?_
  rintro e w12 ⟨xv0, rfl, hxv0, s_11⟩
  refine ⟨xv0, rfl, ?_⟩
  have b_0_12 := b_0_11.trans (s_11.mono b_0_11.size)
  have b_1_12 := b_1_11.trans (s_11.mono b_1_11.size)
  have b_2_12 := b_2_11.trans (s_11.mono b_2_11.size)
  have b_10_12 := b_10_11.trans (s_11.mono b_10_11.size)
  have b_11_12 := b_11_11.trans (s_11.mono b_11_11.size)
  have b_12_12 : Below w12.heap.size w12 w12 := Below.refl _ _
  refine (c_implDescendingRest (hxv0.row.grow b_12_12) (by omega)).mono ?_
  rintro e w13 ⟨h0, rfl, hh0, s_12⟩
  refine ⟨h0, _, rfl, ?_⟩
  have b_0_13 := b_0_12.trans (s_12.mono b_0_12.size)
  have b_1_13 := b_1_12.trans (s_12.mono b_1_12.size)
  have b_2_13 := b_2_12.trans (s_12.mono b_2_12.size)
  have b_10_13 := b_10_12.trans (s_12.mono b_10_12.size)
  have b_11_13 := b_11_12.trans (s_12.mono b_11_12.size)
  have b_12_13 := b_12_12.trans (s_12.mono b_12_12.size)
  have b_13_13 : Below w13.heap.size w13 w13 := Below.refl _ _
  refine Quiet.call1 (s := .bool) (c_eqIntS (hh0.row.grow b_13_13) (hw0.grow b_2_13) (by omega)) ?_
  intro w14 hd14
  have s_13 : Below w13.heap.size w13 w14 := hd14.below _
  have b_0_14 := b_0_13.trans (s_13.mono b_0_13.size)
  have b_1_14 := b_1_13.trans (s_13.mono b_1_13.size)
  have b_2_14 := b_2_13.trans (s_13.mono b_2_13.size)
  have b_10_14 := b_10_13.trans (s_13.mono b_10_13.size)
  have b_11_14 := b_11_13.trans (s_13.mono b_11_13.size)
  have b_12_14 := b_12_13.trans (s_13.mono b_12_13.size)
  have b_13_14 := b_13_13.trans (s_13.mono b_13_13.size)
  refine bif_f (by simp) ?_
  refine bif_f (by simp) ?_
  refine Quiet.call1 (s := .int .i64) (c_heldIntS (n := (RestV pkD L0).length) (hq0.row.grow b_10_14) (by omega) (by omega) (by omega)) ?_
  intro w15 hd15
  have s_14 : Below w14.heap.size w14 w15 := hd15.below _
  have b_0_15 := b_0_14.trans (s_14.mono b_0_14.size)
  have b_1_15 := b_1_14.trans (s_14.mono b_1_14.size)
  have b_2_15 := b_2_14.trans (s_14.mono b_2_14.size)
  have b_10_15 := b_10_14.trans (s_14.mono b_10_14.size)
  have b_11_15 := b_11_14.trans (s_14.mono b_11_14.size)
  have b_12_15 := b_12_14.trans (s_14.mono b_12_14.size)
  have b_13_15 := b_13_14.trans (s_14.mono b_13_14.size)
  refine bif_dec (fun h => by omega) (fun h => ?_)
  refine bif_f (by simp) ?_
  exact ⟨rfl, b_0_15⟩
theorem lawC_FnExactNearestRest (a0 : Sl) (L0 : List Int) (w : World) (ha0 : RowI w a0 L0) (hbd0 : ∀ x ∈ L0, -9223372036854775808 ≤ x ∧ x ≤ 9223372036854775807) :
    Calls PP F.laws_FnExactNearestRest #[a0.v] w fun e w' => e = .returned (.bool true) ∧ Below w.heap.size w w' := by
  have han0 : a0.n = L0.length := by have := ha0.n; simpa using this
  refine laws_FnExactNearestRest.calls a0 ?_
  rw [laws_FnExactNearestRest.E_s]
  have b_0_0 : Below w.heap.size w w := Below.refl _ _
  refine bif_dec (fun h => ⟨rfl, b_0_0⟩) (fun h0s => ?_)
  have hL0 : L0.length < 2 ^ 38 := by omega
  refine (c_toIntS (ha0.grow b_0_0) (by omega)).mono ?_
  rintro e w1 ⟨xw0, rfl, hxw0, s_0⟩
  refine ⟨xw0, rfl, ?_⟩
  have b_0_1 := b_0_0.trans (s_0.mono b_0_0.size)
  have b_1_1 : Below w1.heap.size w1 w1 := Below.refl _ _
  refine (c_specNearestRest (hxw0.row.grow b_1_1) (by omega)).mono ?_
  rintro e w2 ⟨w0, rfl, hw0, s_1⟩
  refine ⟨w0, _, rfl, ?_⟩
  have b_0_2 := b_0_1.trans (s_1.mono b_0_1.size)
  have b_1_2 := b_1_1.trans (s_1.mono b_1_1.size)
  have b_2_2 : Below w2.heap.size w2 w2 := Below.refl _ _
  refine (c_toIntS (ha0.grow b_0_2) (by omega)).mono ?_
  rintro e w3 ⟨xx0, rfl, hxx0, s_2⟩
  refine ⟨xx0, rfl, ?_⟩
  have b_0_3 := b_0_2.trans (s_2.mono b_0_2.size)
  have b_1_3 := b_1_2.trans (s_2.mono b_1_2.size)
  have b_2_3 := b_2_2.trans (s_2.mono b_2_2.size)
  have b_3_3 : Below w3.heap.size w3 w3 := Below.refl _ _
  refine (c_implNearestRest (hxx0.row.grow b_3_3) (by omega)).mono ?_
  rintro e w4 ⟨g0, rfl, hg0, s_3⟩
  refine ⟨g0, _, rfl, ?_⟩
  have b_0_4 := b_0_3.trans (s_3.mono b_0_3.size)
  have b_1_4 := b_1_3.trans (s_3.mono b_1_3.size)
  have b_2_4 := b_2_3.trans (s_3.mono b_2_3.size)
  have b_3_4 := b_3_3.trans (s_3.mono b_3_3.size)
  have b_4_4 : Below w4.heap.size w4 w4 := Below.refl _ _
  have hv0 : (RestV pkN L0).length < 2^38 := NearestRestV_len L0
  refine Quiet.call1 (s := .bool) (c_eqIntS (hg0.row.grow b_4_4) (hw0.grow b_2_4) (by omega)) ?_
  intro w5 hd5
  have s_4 : Below w4.heap.size w4 w5 := hd5.below _
  have b_0_5 := b_0_4.trans (s_4.mono b_0_4.size)
  have b_1_5 := b_1_4.trans (s_4.mono b_1_4.size)
  have b_2_5 := b_2_4.trans (s_4.mono b_2_4.size)
  have b_3_5 := b_3_4.trans (s_4.mono b_3_4.size)
  have b_4_5 := b_4_4.trans (s_4.mono b_4_4.size)
  refine bif_f (by simp) ?_
  refine bif_f (by simp) ?_
  have b_5_5 : Below w5.heap.size w5 w5 := Below.refl _ _
  refine (c_toIntS (ha0.grow b_0_5) (by omega)).mono ?_
  rintro e w6 ⟨y0, rfl, hy0, s_5⟩
  refine ⟨y0, rfl, ?_⟩
  have b_0_6 := b_0_5.trans (s_5.mono b_0_5.size)
  have b_1_6 := b_1_5.trans (s_5.mono b_1_5.size)
  have b_2_6 := b_2_5.trans (s_5.mono b_2_5.size)
  have b_3_6 := b_3_5.trans (s_5.mono b_3_5.size)
  have b_4_6 := b_4_5.trans (s_5.mono b_4_5.size)
  have b_5_6 := b_5_5.trans (s_5.mono b_5_5.size)
  refine Quiet.call1 (s := .bool) (c_eqIntS (hxx0.row.grow b_3_6) hy0.row (by omega)) ?_
  intro w7 hd7
  have s_6 : Below w6.heap.size w6 w7 := hd7.below _
  have b_0_7 := b_0_6.trans (s_6.mono b_0_6.size)
  have b_1_7 := b_1_6.trans (s_6.mono b_1_6.size)
  have b_2_7 := b_2_6.trans (s_6.mono b_2_6.size)
  have b_3_7 := b_3_6.trans (s_6.mono b_3_6.size)
  have b_4_7 := b_4_6.trans (s_6.mono b_4_6.size)
  have b_5_7 := b_5_6.trans (s_6.mono b_5_6.size)
  refine bif_f (by simp) ?_
  have hxx0m := hxx0.grow b_3_7
  have hg0m := hg0.grow b_4_7
  refine (c_markIntS hxx0m (by omega) (k := 1) (by omega) (by omega)).mono ?_
  rintro e w8 ⟨rfl, _, hg_8, hz_8⟩
  have ks_8 := keeps_grown hg_8
  refine ⟨_, rfl, ?_⟩
  have lo_8 : ∀ g, xx0.blk = some g → w2.heap.size ≤ g := (fun g e => (hxx0.lt g e).1)
  have hi_8 : ∀ g, xx0.blk = some g → g < w3.heap.size := (fun g e => (hxx0.lt g e).2)
  have b_0_8 := b_0_7.trans (ks_8.below (B := w.heap.size) (fun g e => Nat.le_trans b_0_2.size (lo_8 g e)) b_0_7.size)
  have b_1_8 := b_1_7.trans (ks_8.below (B := w1.heap.size) (fun g e => Nat.le_trans b_1_2.size (lo_8 g e)) b_1_7.size)
  have b_2_8 := b_2_7.trans (ks_8.below (B := w2.heap.size) (fun g e => Nat.le_trans b_2_2.size (lo_8 g e)) b_2_7.size)
  have hg0m := hg0m.keeps ks_8 (fun g e1 e2 => by have := hi_8 g e2; have := (hg0.lt g e1).1; have := b_3_3.size; omega)
  refine bif_dec (fun h => by omega) (fun h => ?_)
  have b_8_8 : Below w8.heap.size w8 w8 := Below.refl _ _
  have hg0 := hg0m
  refine Quiet.call1 (s := .bool) (c_eqIntS (hg0.row.grow b_8_8) (hw0.grow b_2_8) (by omega)) ?_
  intro w9 hd9
  have s_8 : Below w8.heap.size w8 w9 := hd9.below _
  have b_0_9 := b_0_8.trans (s_8.mono b_0_8.size)
  have b_1_9 := b_1_8.trans (s_8.mono b_1_8.size)
  have b_2_9 := b_2_8.trans (s_8.mono b_2_8.size)
  have b_8_9 := b_8_8.trans (s_8.mono b_8_8.size)
  refine bif_f (by simp) ?_
  refine bif_f (by simp) ?_
  have hg0p := hg0.grow b_8_9
  have b_9_9 : Below w9.heap.size w9 w9 := Below.refl _ _
  refine (c_markIntS hg0p (by omega) (k := 1) (by omega) (by omega)).mono ?_
  rintro e w10 ⟨rfl, hq0, hg_10, hz_10⟩
  have ks_10 := keeps_grown hg_10
  refine ⟨_, rfl, ?_⟩
  have lo_10 : ∀ g, g0.blk = some g → w3.heap.size ≤ g := (fun g e => (hg0p.lt g e).1)
  have b_0_10 := b_0_9.trans (ks_10.below (B := w.heap.size) (fun g e => Nat.le_trans b_0_3.size (lo_10 g e)) b_0_9.size)
  have b_1_10 := b_1_9.trans (ks_10.below (B := w1.heap.size) (fun g e => Nat.le_trans b_1_3.size (lo_10 g e)) b_1_9.size)
  have b_2_10 := b_2_9.trans (ks_10.below (B := w2.heap.size) (fun g e => Nat.le_trans b_2_3.size (lo_10 g e)) b_2_9.size)
  have b_10_10 : Below w10.heap.size w10 w10 := Below.refl _ _
  refine Quiet.call1 (s := .int .i64) (c_heldIntS (n := (RestV pkN L0).length) (hq0.row.grow b_10_10) (by omega) (by omega) (by omega)) ?_
  intro w11 hd11
  have s_10 : Below w10.heap.size w10 w11 := hd11.below _
  have b_0_11 := b_0_10.trans (s_10.mono b_0_10.size)
  have b_1_11 := b_1_10.trans (s_10.mono b_1_10.size)
  have b_2_11 := b_2_10.trans (s_10.mono b_2_10.size)
  have b_10_11 := b_10_10.trans (s_10.mono b_10_10.size)
  refine bif_dec (fun h => by omega) (fun h => ?_)
  refine bif_f (by simp) ?_
  have b_11_11 : Below w11.heap.size w11 w11 := Below.refl _ _
  refine (c_toIntS (ha0.grow b_0_11) (by omega)).mono ?_
  rintro e w12 ⟨xv0, rfl, hxv0, s_11⟩
  refine ⟨xv0, rfl, ?_⟩
  have b_0_12 := b_0_11.trans (s_11.mono b_0_11.size)
  have b_1_12 := b_1_11.trans (s_11.mono b_1_11.size)
  have b_2_12 := b_2_11.trans (s_11.mono b_2_11.size)
  have b_10_12 := b_10_11.trans (s_11.mono b_10_11.size)
  have b_11_12 := b_11_11.trans (s_11.mono b_11_11.size)
  have b_12_12 : Below w12.heap.size w12 w12 := Below.refl _ _
  refine (c_implNearestRest (hxv0.row.grow b_12_12) (by omega)).mono ?_
  rintro e w13 ⟨h0, rfl, hh0, s_12⟩
  refine ⟨h0, _, rfl, ?_⟩
  have b_0_13 := b_0_12.trans (s_12.mono b_0_12.size)
  have b_1_13 := b_1_12.trans (s_12.mono b_1_12.size)
  have b_2_13 := b_2_12.trans (s_12.mono b_2_12.size)
  have b_10_13 := b_10_12.trans (s_12.mono b_10_12.size)
  have b_11_13 := b_11_12.trans (s_12.mono b_11_12.size)
  have b_12_13 := b_12_12.trans (s_12.mono b_12_12.size)
  have b_13_13 : Below w13.heap.size w13 w13 := Below.refl _ _
  refine Quiet.call1 (s := .bool) (c_eqIntS (hh0.row.grow b_13_13) (hw0.grow b_2_13) (by omega)) ?_
  intro w14 hd14
  have s_13 : Below w13.heap.size w13 w14 := hd14.below _
  have b_0_14 := b_0_13.trans (s_13.mono b_0_13.size)
  have b_1_14 := b_1_13.trans (s_13.mono b_1_13.size)
  have b_2_14 := b_2_13.trans (s_13.mono b_2_13.size)
  have b_10_14 := b_10_13.trans (s_13.mono b_10_13.size)
  have b_11_14 := b_11_13.trans (s_13.mono b_11_13.size)
  have b_12_14 := b_12_13.trans (s_13.mono b_12_13.size)
  have b_13_14 := b_13_13.trans (s_13.mono b_13_13.size)
  refine bif_f (by simp) ?_
  refine bif_f (by simp) ?_
  refine Quiet.call1 (s := .int .i64) (c_heldIntS (n := (RestV pkN L0).length) (hq0.row.grow b_10_14) (by omega) (by omega) (by omega)) ?_
  intro w15 hd15
  have s_14 : Below w14.heap.size w14 w15 := hd15.below _
  have b_0_15 := b_0_14.trans (s_14.mono b_0_14.size)
  have b_1_15 := b_1_14.trans (s_14.mono b_1_14.size)
  have b_2_15 := b_2_14.trans (s_14.mono b_2_14.size)
  have b_10_15 := b_10_14.trans (s_14.mono b_10_14.size)
  have b_11_15 := b_11_14.trans (s_14.mono b_11_14.size)
  have b_12_15 := b_12_14.trans (s_14.mono b_12_14.size)
  have b_13_15 := b_13_14.trans (s_14.mono b_13_14.size)
  refine bif_dec (fun h => by omega) (fun h => ?_)
  refine bif_f (by simp) ?_
  exact ⟨rfl, b_0_15⟩
end Go.Proofs.Ytjojajnkofgfpaa
