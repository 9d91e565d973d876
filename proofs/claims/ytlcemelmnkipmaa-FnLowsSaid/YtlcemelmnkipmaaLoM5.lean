/- The texts RestI, CodeSi, CodeCl2, CodePe, PermsMath, Perms, ClassMath, Class, InClS, InClI, CodeCh, CodeIn, Ins, Chi, Sites, Cc0, CodeS, CodeB, LawSs, LawSz, Counts, LoLaw in one (gmerge.py). -/
import Derived.Laws.CopyRow
import Derived.Lib.AppendZerosOnto
import Derived.Lib.Overlaps
import Derived.Test.YtlcemelmnkipmaaLoM4
/- DescendingRest and NearestRest: the program's text, and the laws. -/
namespace Go.Proofs.Ytlcemelmnkipmaa
open Go Go.RowKit
set_option maxRecDepth 100000

theorem ne_bool_int : T_bool ≠ T_int := by decide
/-- A function value that picks a place. -/
def Picks (w0 : World) (f : Value) (pk : List Int → Int → Nat) : Prop := ∀ (w : World) (l : Sl) (R : List Int) (low : Int), Below w0.heap.size w0 w → RowI w l R → pk R low < R.length → R.length ≤ 8 → ∀ K : Int → World → Prop, (∀ w', Below w.heap.size w w' → K (pk R low : Nat) w') → callV1 (.int .i64) PP f [l.v, vI low] w K
theorem picks_D (w0 : World) : Picks w0 (.func (.func F.impl_DescendingRestL1) #[] #[]) pkD := by
  intro w l R low _ hl hp h8 K hk
  have hn : l.n = R.length := by have := hl.n; simpa using this
  refine ⟨_, _, _, rfl, by kernel_rfl, ?_⟩
  show Calls PP F.impl_DescendingRestL1 #[l.v, vI low] w _
  refine impl_DescendingRestL1.calls l low ?_
  rw [impl_DescendingRestL1.E_s, hn]
  unfold pkD at hp
  refine ⟨_, rfl, ?_⟩
  have e : w64 ((R.length : Int) - 1) = (pkD R low : Nat) := by rw [w64_id (by omega) (by omega), pkD]; omega
  rw [e]
  exact hk w (Below.refl _ _)
theorem c_gt {w0 : World} {p : Addr} {low : Int} (hp : w0.cell? p = some (vI low)) (x : Int) : FnB w0 (.func (.func F.impl_NearestRestL1L1) #[] #[.pointer (some p)]) [vI x] (decide (x > low)) := by
  intro w hb
  refine ⟨_, _, _, rfl, by kernel_rfl, ?_⟩
  show Calls PP F.impl_NearestRestL1L1 #[vI x, .pointer (some p)] w _
  refine impl_NearestRestL1L1.calls x p ?_
  rw [impl_NearestRestL1L1.E_s]
  refine load_int (cell_grow hp hb) ?_
  exact ⟨rfl, Below.refl _ _⟩
theorem picks_N (w0 : World) : Picks w0 (.func (.func F.impl_NearestRestL1) #[] #[]) pkN := by
  intro w l R low _ hl hp h8 K hk
  refine ⟨_, _, _, rfl, by kernel_rfl, ?_⟩
  show Calls PP F.impl_NearestRestL1 #[l.v, vI low] w _
  refine impl_NearestRestL1.calls l low ?_
  rw [impl_NearestRestL1.E_s]
  refine new_one ?_
  intro ad w1 hc hb1
  refine (c_IndexFuncI (hl.grow hb1) (by omega) (φ := fun v => decide (v > low)) (fun x _ => c_gt hc x)).mono ?_
  rintro e w2 ⟨rfl, hb2⟩
  refine ⟨_, rfl, _, rfl, ?_⟩
  have e : idxF (fun v => decide (v > low)) R = (pkN R low : Nat) := by
    unfold idxF
    unfold pkN at hp ⊢
    rw [if_pos hp]
  rw [e]
  exact hk w2 (hb1.trans (hb2.mono hb1.size))
theorem stO_drop {pk : List Int → Int → Nat} {L : List Int} {k : Nat} (hk : k < L.length) (h : isLow L k = true) : stO pk L (k + 1) ++ L.drop (k + 1) = stO pk L k ++ L.drop k := by
  rw [stO, if_pos h, List.append_assoc, List.singleton_append, List.drop_eq_getElem_cons hk, getD_lt hk]
theorem stO_set {pk : List Int → Int → Nat} {L : List Int} {k : Nat} (hk : k < L.length) (h : isLow L k = false) : (stO pk L k ++ L.drop k).set k ((stR pk L k).getD (pk (stR pk L k) (lastLow L k)) 0) = stO pk L (k + 1) ++ L.drop (k + 1) := by
  have hl := stO_length pk L k
  rw [stO, if_neg (by rw [h]; simp), List.append_assoc, List.singleton_append, List.drop_eq_getElem_cons hk]
  rw [List.set_append_right _ _ (by omega), hl, Nat.sub_self, List.set_cons_zero]
theorem c_rest {w : World} {a : Sl} {L : List Int} (ha : RowI w a L) (hP : IsP L) {pk : List Int → Int → Nat} (hok : PkOk pk L) {f : Value} (hf : Picks w f pk) :
    Calls PP F.impl_rest #[a.v, f] w fun e w' => ∃ s : Sl, e = .returned s.v ∧ OwnI w' w.heap.size s (stO pk L L.length) ∧ Below w.heap.size w w' := by
  have han : a.n = L.length := by have := ha.n; simpa using this
  have h8 := hP.1
  refine impl_rest.calls a f ?_
  rw [impl_rest.E_s, han]
  refine (c_Clone ha (by omega)).mono ?_
  rintro e w1 ⟨o, rfl, ho, hb1⟩
  refine ⟨o, rfl, ?_⟩
  refine lit0 oneInt (B := w.heap.size) hb1.size ?_
  intro le w2 hle hg2 hlc
  have hb12 := below_of_grow hg2
  have hb2 := hb1.trans (hb12.mono hb1.size)
  refine make_own oneBool (B := w.heap.size) hb2.size (by omega) (by omega) ?_
  intro is w3 his hg3 _
  have hb23 := below_of_grow hg3
  have hb3 := hb2.trans (hb23.mono hb2.size)
  refine (c_implLowsOf (ha.grow hb3) (by omega)).mono ?_
  rintro e w4 ⟨lo, rfl, hlo, hb34⟩
  refine ⟨lo, rfl, ?_⟩
  rw [LowsV, if_pos hP] at hlo
  have hb4 := hb3.trans (hb34.mono hb3.size)
  have hll := lowsT_length L L.length
  have hlon : lo.n = (lowsT L L.length).length := by have := hlo.n; simpa using this
  have ho4 : OwnI w4 w.heap.size o L := ((ho.grow hb12).grow hb23).grow hb34
  have hle4 : OwnI w4 w.heap.size le [] := (Own.grow (Own.grow hle hb23) hb34)
  have his4 : Own w4 w.heap.size T_bool is ((List.replicate L.length false).map Value.bool) := by
    have := Own.grow his hb34
    simpa using this
  have hap : Apt o le := fun g _ h2 => by rw [Sl.blk, if_pos hlc] at h2; cases h2
  rw [hlon]
  refine impl_rest.L5_rule _ _ _ _ _ _ _ _ _ _ (I := fun t w' => 0 ≤ t ∧ t ≤ (lowsT L L.length).length ∧ Below w.heap.size w w' ∧ OwnI w' w.heap.size o L ∧ OwnI w' w.heap.size le [] ∧ OwnI w' w3.heap.size lo (lowsT L L.length) ∧
      ∃ bs : List Bool, bs.length = L.length ∧ Own w' w.heap.size T_bool is (bs.map Value.bool) ∧ ∀ j, j < L.length → bs.getD j false = decide ((j : Int) + 1 ∈ (lowsT L L.length).take t.toNat)) (μ := fun t _ => ((lowsT L L.length).length - t).toNat)
    ⟨by omega, by omega, hb4, ho4, hle4, hlo, List.replicate L.length false, by simp, his4, fun j hj => by simp [List.getD_eq_getElem?_getD, List.getElem?_replicate, hj]⟩ ?_
  rintro t w5 ⟨ht0, ht, hb5, ho5, hle5, hlo5, bs, hbl, his5, hbs⟩
  rw [impl_rest.B5_s]
  refine bif_dec (fun h3 => ?_) (fun h3 => ?_)
  · have hlt : t.toNat < (lowsT L L.length).length := by omega
    have et : (t + 1).toNat = t.toNat + 1 := by omega
    refine RowI.get (Own.row hlo5) ht0 (by omega) ?_
    rw [getD_lt hlt]
    have hx := mem_lowsT.1 (List.getElem_mem hlt)
    have hsn := List.take_succ_eq_append_getElem hlt
    generalize (lowsT L L.length)[t.toNat] = x at hx hsn
    rw [w64_id (n := x - 1) (by omega) (by omega)]
    refine Own.put his5 (by omega) (by simp; omega) ?_
    intro w6 his6 hg6 _
    have hb6 := hb5.grown hg6 hb5.size (fun g hg => (his5.lt g hg).1)
    refine ⟨t + 1, by rw [w64_succ ht0 (by omega)], ⟨by omega, by omega, hb6, ho5.kept hg6 (fun g e1 e2 => (ho5.apt his5 ne_bool_int.symm) g e1 e2), hle5.kept hg6 (fun g e1 e2 => (hle5.apt his5 ne_bool_int.symm) g e1 e2), hlo5.kept hg6 (fun g e1 e2 => (hlo5.apt his5 ne_bool_int.symm) g e1 e2),
      bs.set (x - 1).toNat true, by simpa using hbl, by simpa [List.map_set] using his6, fun j hj => ?_⟩, by omega⟩
    rw [et, hsn]
    by_cases e : j = (x - 1).toNat
    · subst e
      rw [decide_eq_true (by rw [List.mem_append]; right; simp; omega)]
      have hxl : (x - 1).toNat < bs.length := by omega
      simp only [List.getD_eq_getElem?_getD, List.getElem?_set, if_pos hxl]
      simp
    · have e1 : (bs.set (x - 1).toNat true).getD j false = bs.getD j false := by
        simp only [List.getD_eq_getElem?_getD, List.getElem?_set]
        rw [if_neg (fun h => e h.symm)]
      rw [e1, hbs j hj]
      refine decide_eq_decide.2 ⟨fun h => List.mem_append.2 (.inl h), fun h => ?_⟩
      rcases List.mem_append.1 h with h | h
      · exact h
      · have : (j : Int) + 1 = x := by simpa using h
        omega
  · rw [impl_rest.A5_0_s, han]
    rw [show t.toNat = (lowsT L L.length).length by omega, List.take_length] at hbs
    have hbs : ∀ j, j < L.length → bs.getD j false = isLow L j := fun j hj => by rw [hbs j hj, has_low hj]
    refine impl_rest.L10_rule _ _ _ _ _ _ _ _ _ _ (I := fun le k w' => 0 ≤ k ∧ k ≤ L.length ∧ Below w.heap.size w w' ∧ OwnI w' w.heap.size o L ∧ OwnI w' w.heap.size le (nonL L k.toNat) ∧ Apt o le ∧ Own w' w.heap.size T_bool is (bs.map Value.bool)) (μ := fun _ k _ => (L.length - k).toNat)
      ⟨by omega, by omega, hb5, ho5, hle5, hap, his5⟩ ?_
    rintro le k w6 ⟨hk0, hk, hb6, ho6, hle6, hap6, his6⟩
    rw [impl_rest.B10_s]
    refine bif_dec (fun h4 => ?_) (fun h4 => ?_)
    · obtain ⟨k, rfl⟩ : ∃ m : Nat, k = m := ⟨k.toNat, by omega⟩
      have hlt : k < L.length := by omega
      rw [Int.toNat_natCast] at hle6
      have ek : ((k : Int) + 1).toNat = k + 1 := by omega
      have hnl := nonL_len L k
      refine RowI.get (ha.grow hb6) hk0 (by omega) ?_
      rw [Int.toNat_natCast]
      have hval : (bs.map Value.bool)[(k : Int).toNat]? = some (Sh.bool.enc (isLow L k)) := by
        rw [← hbs k hlt, Int.toNat_natCast]
        simp [List.getD_eq_getElem?_getD, List.getElem?_eq_getElem (show k < bs.length by omega)]
      refine Row.get (sh := .bool) his6.row hk0 hval ?_
      rw [w64_succ hk0 (by omega)]
      refine bif_intro (fun h6 => ?_) (fun h6 => ?_)
      · have h6 : isLow L k = false := by simpa using h6
        refine append_int hle6 hb6.size (by omega) ?_
        intro le' w7 hle7 hg7 hn7
        refine ⟨le', (k : Int) + 1, rfl, ⟨by omega, by omega, hb6.grown hg7 hb6.size (fun g hg => (hle6.lt g hg).1), Own.keeps ho6 (keeps_grown hg7) (fun g e1 e2 => hap6 g e1 e2), ?_, (hap6.symm.next hn7 (fun g hg => (ho6.lt g hg).2)).symm, his6.kept hg7 fun g e1 e2 => (his6.apt hle6 ne_bool_int) g e1 e2⟩, by omega⟩
        rw [ek, nonL, if_neg (by rw [h6]; simp)]; exact hle7
      · have h6 : isLow L k = true := by simpa using h6
        refine ⟨le, (k : Int) + 1, rfl, ⟨by omega, by omega, hb6, ho6, ?_, hap6, his6⟩, by omega⟩
        rw [ek, nonL, if_pos h6]; exact hle6
    · rw [impl_rest.A10_2_s, han]
      rw [show k.toNat = L.length by omega] at hle6
      have hnl := nonL_len L L.length
      refine c_Sort hle6 (by omega) fun w7 hle7 hg7 => ?_
      have hb7 := hb6.grown hg7 hb6.size (fun g hg => (hle6.lt g hg).1)
      have ho7 : OwnI w7 w.heap.size o L := Own.keeps ho6 (keeps_grown hg7) (fun g e1 e2 => hap6 g e1 e2)
      have his7 : Own w7 w.heap.size T_bool is (bs.map Value.bool) := his6.kept hg7 fun g e1 e2 => (his6.apt hle6 ne_bool_int) g e1 e2
      refine impl_rest.L18_rule _ _ _ _ _ _ _ _ _ _ (I := fun le low k w' => 0 ≤ k ∧ k ≤ L.length ∧ Below w.heap.size w w' ∧ low = lastLow L k.toNat ∧ OwnI w' w.heap.size o (stO pk L k.toNat ++ L.drop k.toNat) ∧ OwnI w' w.heap.size le (stR pk L k.toNat) ∧ Apt o le ∧ Own w' w.heap.size T_bool is (bs.map Value.bool)) (μ := fun _ _ k _ => (L.length - k).toNat)
        ⟨by omega, by omega, hb7, rfl, by simpa [stO] using ho7, hle7, hap6, his7⟩ ?_
      rintro le low k w8 ⟨hk0, hk, hb8, hlow, ho8, hle8, hap8, his8⟩
      rw [impl_rest.B18_s]
      refine bif_dec (fun h5 => ?_) (fun h5 => ?_)
      · obtain ⟨k, rfl⟩ : ∃ m : Nat, k = m := ⟨k.toNat, by omega⟩
        have hlt : k < L.length := by omega
        rw [Int.toNat_natCast] at hle8 ho8 hlow
        have ek : ((k : Int) + 1).toNat = k + 1 := by omega
        have hol := stO_length pk L k
        refine RowI.get (ha.grow hb8) hk0 (by omega) ?_
        rw [Int.toNat_natCast]
        have hval : (bs.map Value.bool)[(k : Int).toNat]? = some (Sh.bool.enc (isLow L k)) := by
          rw [← hbs k hlt, Int.toNat_natCast]
          simp [List.getD_eq_getElem?_getD, List.getElem?_eq_getElem (show k < bs.length by omega)]
        refine Row.get (sh := .bool) his8.row hk0 hval ?_
        rw [w64_succ hk0 (by omega)]
        refine bif_intro (fun h6 => ?_) (fun h6 => ?_)
        · refine ⟨le, L.getD k 0, (k : Int) + 1, rfl, ⟨by omega, by omega, hb8, ?_, ?_, ?_, hap8, his8⟩, by omega⟩
          · rw [ek, lastLow, if_pos h6]
          · rw [ek, stO_drop hlt h6]; exact ho8
          · rw [ek, stR, if_pos h6]; exact hle8
        · have hp := hok k hlt h6
          have hr8 := stR_len8 hP hok (k := k) (by omega)
          subst hlow
          refine hf w8 le _ _ hb8 (Own.row hle8) hp hr8 _ fun w9 hb9 => ?_
          have hb89 := hb8.trans (hb9.mono hb8.size)
          have ho9 := Own.grow ho8 hb9
          have hle9 : OwnI w9 w.heap.size le (stR pk L k) := Own.grow hle8 hb9
          have his9 := Own.grow his8 hb9
          refine RowI.get (Own.row hle9) (by omega) (by omega) ?_
          rw [Int.toNat_natCast]
          refine Own.put ho9 (by omega) (by rw [List.length_map, List.length_append, List.length_drop]; omega) ?_
          intro w10 ho10 hg10 _
          have hb10 := hb89.grown hg10 hb89.size (fun g hg => (ho9.lt g hg).1)
          have hle10 : OwnI w10 w.heap.size le (stR pk L k) := Own.keeps hle9 (keeps_grown hg10) (fun g e1 e2 => hap8 g e2 e1)
          have his10 := his9.kept hg10 fun g e1 e2 => (his9.apt ho9 ne_bool_int) g e1 e2
          rw [Int.toNat_natCast, ← List.map_set, stO_set hlt h6] at ho10
          rw [w64_succ (by omega) (by omega)]
          refine (c_Delete hle10 hb10.size (by omega) (by omega) (by omega)).mono ?_
          rintro e w11 ⟨le', rfl, hle11, hg11, hn11⟩
          refine ⟨le', rfl, ?_⟩
          refine ⟨le', lastLow L k, (k : Int) + 1, rfl, ⟨by omega, by omega, hb10.grown hg11 hb10.size (fun g hg => (hle10.lt g hg).1), ?_, ?_, ?_, (hap8.symm.next hn11 (fun g hg => (ho10.lt g hg).2)).symm, his10.kept hg11 fun g e1 e2 => (his10.apt hle10 ne_bool_int) g e1 e2⟩, by omega⟩
          · rw [ek, lastLow, if_neg (by rw [h6]; simp)]
          · rw [ek]; exact Own.keeps ho10 (keeps_grown hg11) (fun g e1 e2 => hap8 g e1 e2)
          · rw [ek, stR, if_neg (by rw [h6]; simp), erase_eq]
            rw [Int.toNat_natCast] at hle11
            exact hle11
      · rw [impl_rest.A18_4_s]
        rw [show k.toNat = L.length by omega, List.drop_of_length_le (by omega), List.append_nil] at ho8
        exact ⟨o, rfl, ho8, hb8⟩
open Classical in
theorem c_implDescendingRest {w : World} {a : Sl} {L : List Int} (ha : RowI w a L) (hL : L.length < 2^38) :
    Calls PP F.impl_DescendingRest #[a.v] w fun e w' => ∃ s : Sl, e = .returned (.tuple #[s.v, .bool (decide (IsP L))]) ∧ OwnI w' w.heap.size s (RestV pkD L) ∧ Below w.heap.size w w' := by
  refine impl_DescendingRest.calls a ?_
  rw [impl_DescendingRest.E_s]
  refine (c_implIsPerm ha hL).mono ?_
  rintro e w1 ⟨rfl, hb1⟩
  refine ⟨_, rfl, ?_⟩
  refine bif_intro (fun h => ?_) (fun h => ?_)
  · have h : ¬ IsP L := by simpa using h
    exact ⟨Sl.nil, by rw [decide_eq_false h], by rw [RestV, if_neg h]; exact Own.nil _ _ _, hb1⟩
  have hP : IsP L := by simpa using h
  refine (c_rest (ha.grow hb1) hP (pkOk_D L) (picks_D w1)).mono ?_
  rintro e w2 ⟨s, rfl, hs, hb2⟩
  exact ⟨s, rfl, s, by rw [decide_eq_true hP], by rw [RestV, if_pos hP]; exact Own.mono hs hb1.size, hb1.trans (hb2.mono hb1.size)⟩
open Classical in
theorem c_implNearestRest {w : World} {a : Sl} {L : List Int} (ha : RowI w a L) (hL : L.length < 2^38) :
    Calls PP F.impl_NearestRest #[a.v] w fun e w' => ∃ s : Sl, e = .returned (.tuple #[s.v, .bool (decide (IsP L))]) ∧ OwnI w' w.heap.size s (RestV pkN L) ∧ Below w.heap.size w w' := by
  refine impl_NearestRest.calls a ?_
  rw [impl_NearestRest.E_s]
  refine (c_implIsPerm ha hL).mono ?_
  rintro e w1 ⟨rfl, hb1⟩
  refine ⟨_, rfl, ?_⟩
  refine bif_intro (fun h => ?_) (fun h => ?_)
  · have h : ¬ IsP L := by simpa using h
    exact ⟨Sl.nil, by rw [decide_eq_false h], by rw [RestV, if_neg h]; exact Own.nil _ _ _, hb1⟩
  have hP : IsP L := by simpa using h
  refine (c_rest (ha.grow hb1) hP (pkOk_N L) (picks_N w1)).mono ?_
  rintro e w2 ⟨s, rfl, hs, hb2⟩
  exact ⟨s, rfl, s, by rw [decide_eq_true hP], by rw [RestV, if_pos hP]; exact Own.mono hs hb1.size, hb1.trans (hb2.mono hb1.size)⟩
noncomputable abbrev DescendingRestV (L : List Int) : List Int := RestV pkD L
open Classical in
noncomputable abbrev DescendingRestV1 (L : List Int) : Bool := decide (IsP L)
theorem DescendingRestV_len (L : List Int) : (DescendingRestV L).length < 2^38 := RestV_len pkD L
noncomputable abbrev NearestRestV (L : List Int) : List Int := RestV pkN L
open Classical in
noncomputable abbrev NearestRestV1 (L : List Int) : Bool := decide (IsP L)
theorem NearestRestV_len (L : List Int) : (NearestRestV L).length < 2^38 := RestV_len pkN L

end Go.Proofs.Ytlcemelmnkipmaa

/- What each function does, step by step, written by a program (Gen.lean); each equation is checked by the kernel. -/
namespace Go.Proofs.Ytlcemelmnkipmaa
open Go
set_option linter.unusedVariables false
set_option maxRecDepth 100000
namespace spec_LowCounts
@[reducible] def cfg : Cfg := ⟨45, [(6, [5, 6, 7])], [(1, [5, 6, 7]), (0, [5])], [], [4], [], [29, 12, 74, 34, 92, 23, 62, 26, 37, 94], [72, 85, 91, 22, 40, 4, 43]⟩
def q11 (pr : Prims) (R : Ending → World → Prop) : Exit → Env → World → Prop := fun ex e w => normQ ex (fun e w => contE pr cfg (sub (codeOf Try.f16) [1, 1, 1, 1, 1]) (fun e w => wpC pr PP cfg (DD pr) (sub (codeOf Try.f16) [1, 1, 1, 1, 1]) (retQ Try.f16.results.toList R) e w) e w) (retQ Try.f16.results.toList R) e w
def q12 (pr : Prims) (R : Ending → World → Prop) : Exit → Env → World → Prop := fun ex e w => blockQ ex 0 (q11 pr R) e w
def emb6 (out_5 : Sl) (all_6 : Sl) (k_7 : Int) : Env := [(5, Sl.v out_5), (6, Sl.v all_6), (7, vI k_7)]
def x0 (out_5 : Sl) : Env := [(5, Sl.v out_5)]
def S6 (pr : Prims) (Q : Exit → Env → World → Prop) : (Env → World → Prop) → Env → World → Prop := fun k e w => wpC pr PP cfg (DD pr) (sub (codeOf Try.f16) [1, 1, 1, 1, 0, 1, 0, 0]) (fun ex e w => normQ ex (fun e' w' => k (Env.restr e' (lookN cfg.loops (keyOf (sub (codeOf Try.f16) [1, 1, 1, 1, 0, 1, 0, 0])))) w') Q e w) e w
def B6 (pr : Prims) (out_5 : Sl) (all_6 : Sl) (k_7 : Int) (w : World) (k : Env → World → Prop) (Q : Exit → Env → World → Prop) : Prop :=
  S6 pr Q k (emb6 out_5 all_6 k_7) w
def L6 (pr : Prims) (out_5 : Sl) (all_6 : Sl) (k_7 : Int) (w : World) (Q : Exit → Env → World → Prop) : Prop :=
  pr.loop (S6 pr Q) (emb6 out_5 all_6 k_7) w
def E (pr : Prims) (list_0 : Sl) (n_1 : Int) (w : World) (R : Ending → World → Prop) : Prop :=
  wpC pr PP cfg (DD pr) (codeOf Try.f16) (retQ Try.f16.results.toList R) (argE 0 [Sl.v list_0, vI n_1]) w
theorem B6_eq (pr : Prims) (out_5 : Sl) (all_6 : Sl) (k_7 : Int) (w : World) (k : Env → World → Prop) (Q : Exit → Env → World → Prop) : B6 pr out_5 all_6 k_7 w k Q = (
  bif decide (k_7 < (all_6.n : Int)) then (
  pr.idxK 1 all_6 k_7 fun (a13 : Addr) =>
  pr.load1 .sl a13 w fun (ξ14 : Sl) =>
  pr.call1 .sl PP F.spec_LowsOf #[Sl.v ξ14] w fun (ρ15 : Sl) ω16 =>
  pr.idxK 1 out_5 (ρ15.n : Int) fun (a17 : Addr) =>
  pr.load1 (.int .i64) a17 ω16 fun (ξ18 : Int) =>
  pr.idxK 1 out_5 (ρ15.n : Int) fun (a19 : Addr) =>
  pr.storeC a19 (vI (w64 (ξ18 + 1))) ω16 fun ω20 =>
  k (emb6 out_5 all_6 (w64 (k_7 + 1))) ω20)
  else (
  Q (.exit 0) (x0 out_5) w)) := by kernel_rfl
theorem B6_s (out_5 : Sl) (all_6 : Sl) (k_7 : Int) (w : World) (k : Env → World → Prop) (Q : Exit → Env → World → Prop) : B6 std out_5 all_6 k_7 w k Q = (
  bif decide (k_7 < (all_6.n : Int)) then (
  idxK 1 all_6 k_7 fun (a13 : Addr) =>
  load1 .sl a13 w fun (ξ14 : Sl) =>
  call1 .sl PP F.spec_LowsOf #[Sl.v ξ14] w fun (ρ15 : Sl) ω16 =>
  idxK 1 out_5 (ρ15.n : Int) fun (a17 : Addr) =>
  load1 (.int .i64) a17 ω16 fun (ξ18 : Int) =>
  idxK 1 out_5 (ρ15.n : Int) fun (a19 : Addr) =>
  storeC a19 (vI (w64 (ξ18 + 1))) ω16 fun ω20 =>
  k (emb6 out_5 all_6 (w64 (k_7 + 1))) ω20)
  else (
  Q (.exit 0) (x0 out_5) w)) := B6_eq std out_5 all_6 k_7 w k Q
theorem L6_rule (out_5 : Sl) (all_6 : Sl) (k_7 : Int) (w : World) (Q : Exit → Env → World → Prop) (I : Int → World → Prop) (μ : Int → World → Nat) (h0 : I k_7 w)
    (h : ∀ (k_7 : Int) (w' : World), I k_7 w' → B6 std out_5 all_6 k_7 w' (fun e2 w2 => ∃ k_7_n, e2 = emb6 out_5 all_6 k_7_n ∧ I k_7_n w2 ∧ μ k_7_n w2 < μ k_7 w') Q) :
    L6 std out_5 all_6 k_7 w Q := by
  unfold L6
  refine LoopE.intro (σ := Int) (step := S6 std Q) (fun s => emb6 out_5 all_6 s) (fun s w => I s w) (fun s w => μ s w) k_7 rfl h0 ?_
  intro s w' hI
  have h1 := h s w' hI
  unfold B6 at h1
  exact h1
theorem A6_0_eq (pr : Prims) (out_5 : Sl) (w : World) (R : Ending → World → Prop) : (q12 pr R) (.exit 0) (x0 out_5) w = (
  R (.returned (Sl.v out_5)) w) := by kernel_rfl
theorem A6_0_s (out_5 : Sl) (w : World) (R : Ending → World → Prop) : (q12 std R) (.exit 0) (x0 out_5) w = (
  R (.returned (Sl.v out_5)) w) := A6_0_eq std out_5 w R
theorem E_eq (pr : Prims) (list_0 : Sl) (n_1 : Int) (w : World) (R : Ending → World → Prop) : E pr list_0 n_1 w R = (
  pr.call1 .bool PP F.spec_IsBasis #[Sl.v list_0] w fun (ρ0 : Bool) ω1 =>
  bif !ρ0 then (
  pr.sem1 .sl PP (Instr.buildSlice T_Sint 0 #[]) ω1 fun (ρ2 : Sl) ω3 =>
  R (.returned (Sl.v ρ2)) ω3)
  else (
  pr.pcall1 .bool PP F.spec_l1In #[vI n_1, vI 0, vI 6] fun (ρ4 : Bool) =>
  bif !ρ4 then (
  pr.sem1 .sl PP (Instr.buildSlice T_Sint 0 #[]) ω1 fun (ρ5 : Sl) ω6 =>
  R (.returned (Sl.v ρ5)) ω6)
  else (
  pr.sem1 .sl PP (Instr.makeSlice T_Sint (vI (w64 (n_1 + 1))) (vI (w64 (n_1 + 1)))) ω1 fun (ρ7 : Sl) ω8 =>
  pr.call1 .sl PP F.spec_ClassOf #[Sl.v list_0, vI n_1] ω8 fun (ρ9 : Sl) ω10 =>
  L6 pr ρ7 ρ9 0 ω10 (q12 pr R)))) := by kernel_rfl
theorem E_s (list_0 : Sl) (n_1 : Int) (w : World) (R : Ending → World → Prop) : E std list_0 n_1 w R = (
  call1 .bool PP F.spec_IsBasis #[Sl.v list_0] w fun (ρ0 : Bool) ω1 =>
  bif !ρ0 then (
  sem1 .sl PP (Instr.buildSlice T_Sint 0 #[]) ω1 fun (ρ2 : Sl) ω3 =>
  R (.returned (Sl.v ρ2)) ω3)
  else (
  pcall1 .bool PP F.spec_l1In #[vI n_1, vI 0, vI 6] fun (ρ4 : Bool) =>
  bif !ρ4 then (
  sem1 .sl PP (Instr.buildSlice T_Sint 0 #[]) ω1 fun (ρ5 : Sl) ω6 =>
  R (.returned (Sl.v ρ5)) ω6)
  else (
  sem1 .sl PP (Instr.makeSlice T_Sint (vI (w64 (n_1 + 1))) (vI (w64 (n_1 + 1)))) ω1 fun (ρ7 : Sl) ω8 =>
  call1 .sl PP F.spec_ClassOf #[Sl.v list_0, vI n_1] ω8 fun (ρ9 : Sl) ω10 =>
  L6 std ρ7 ρ9 0 ω10 (q12 std R)))) := E_eq std list_0 n_1 w R
theorem drawsOk : drawsOk PP cfg okD (codeOf Try.f16) = true := by kernel_rfl
theorem calls (list_0 : Sl) (n_1 : Int) {w : World} {R : Ending → World → Prop} (h : E std list_0 n_1 w R) : Calls PP F.spec_LowCounts #[Sl.v list_0, vI n_1] w R :=
  calls_of noCount mixed drawOk Try.func16 rfl (c := cfg) (args := [Sl.v list_0, vI n_1]) rfl (Nat.le_of_ble_eq_true (by kernel_rfl)) drawsOk h
end spec_LowCounts

namespace impl_LowCounts
@[reducible] def cfg : Cfg := ⟨37, [(5, [5, 21, 22, 23])], [(1, [5, 21, 22, 23]), (0, [5])], [], [4], [], [29, 12, 74, 34, 92, 23, 62, 26, 37, 94], [72, 85, 91, 22, 40, 4, 43]⟩
def q5 (pr : Prims) (R : Ending → World → Prop) : Exit → Env → World → Prop := fun ex e w => normQ ex (fun e w => contE pr cfg (sub (codeOf Try.f15) [1, 1, 1, 1]) (fun e w => wpC pr PP cfg (DD pr) (sub (codeOf Try.f15) [1, 1, 1, 1]) (retQ Try.f15.results.toList R) e w) e w) (retQ Try.f15.results.toList R) e w
def q8 (pr : Prims) (R : Ending → World → Prop) : Exit → Env → World → Prop := fun ex e w => blockQ ex 0 (q5 pr R) e w
def emb5 (out_5 : Sl) (t21 : Sl) (t22 : Int) (t23 : Int) : Env := [(5, Sl.v out_5), (21, Sl.v t21), (22, vI t22), (23, vI t23)]
def x0 (out_5 : Sl) : Env := [(5, Sl.v out_5)]
def S5 (pr : Prims) (Q : Exit → Env → World → Prop) : (Env → World → Prop) → Env → World → Prop := fun k e w => wpC pr PP cfg (DD pr) (sub (codeOf Try.f15) [1, 1, 1, 0, 1, 0, 0]) (fun ex e w => normQ ex (fun e' w' => k (Env.restr e' (lookN cfg.loops (keyOf (sub (codeOf Try.f15) [1, 1, 1, 0, 1, 0, 0])))) w') Q e w) e w
def B5 (pr : Prims) (out_5 : Sl) (t21 : Sl) (t22 : Int) (t23 : Int) (w : World) (k : Env → World → Prop) (Q : Exit → Env → World → Prop) : Prop :=
  S5 pr Q k (emb5 out_5 t21 t22 t23) w
def L5 (pr : Prims) (out_5 : Sl) (t21 : Sl) (t22 : Int) (t23 : Int) (w : World) (Q : Exit → Env → World → Prop) : Prop :=
  pr.loop (S5 pr Q) (emb5 out_5 t21 t22 t23) w
def E (pr : Prims) (list_0 : Sl) (n_1 : Int) (w : World) (R : Ending → World → Prop) : Prop :=
  wpC pr PP cfg (DD pr) (codeOf Try.f15) (retQ Try.f15.results.toList R) (argE 0 [Sl.v list_0, vI n_1]) w
theorem B5_eq (pr : Prims) (out_5 : Sl) (t21 : Sl) (t22 : Int) (t23 : Int) (w : World) (k : Env → World → Prop) (Q : Exit → Env → World → Prop) : B5 pr out_5 t21 t22 t23 w k Q = (
  bif decide (t23 < t22) then (
  pr.idxK 1 t21 t23 fun (a9 : Addr) =>
  pr.load1 .sl a9 w fun (ξ10 : Sl) =>
  pr.call1 .sl PP F.impl_LowsOf #[Sl.v ξ10] w fun (ρ11 : Sl) ω12 =>
  pr.idxK 1 out_5 (ρ11.n : Int) fun (a13 : Addr) =>
  pr.load1 (.int .i64) a13 ω12 fun (ξ14 : Int) =>
  pr.idxK 1 out_5 (ρ11.n : Int) fun (a15 : Addr) =>
  pr.storeC a15 (vI (w64 (ξ14 + 1))) ω12 fun ω16 =>
  k (emb5 out_5 t21 t22 (w64 (t23 + 1))) ω16)
  else (
  Q (.exit 0) (x0 out_5) w)) := by kernel_rfl
theorem B5_s (out_5 : Sl) (t21 : Sl) (t22 : Int) (t23 : Int) (w : World) (k : Env → World → Prop) (Q : Exit → Env → World → Prop) : B5 std out_5 t21 t22 t23 w k Q = (
  bif decide (t23 < t22) then (
  idxK 1 t21 t23 fun (a9 : Addr) =>
  load1 .sl a9 w fun (ξ10 : Sl) =>
  call1 .sl PP F.impl_LowsOf #[Sl.v ξ10] w fun (ρ11 : Sl) ω12 =>
  idxK 1 out_5 (ρ11.n : Int) fun (a13 : Addr) =>
  load1 (.int .i64) a13 ω12 fun (ξ14 : Int) =>
  idxK 1 out_5 (ρ11.n : Int) fun (a15 : Addr) =>
  storeC a15 (vI (w64 (ξ14 + 1))) ω12 fun ω16 =>
  k (emb5 out_5 t21 t22 (w64 (t23 + 1))) ω16)
  else (
  Q (.exit 0) (x0 out_5) w)) := B5_eq std out_5 t21 t22 t23 w k Q
theorem L5_rule (out_5 : Sl) (t21 : Sl) (t22 : Int) (t23 : Int) (w : World) (Q : Exit → Env → World → Prop) (I : Int → World → Prop) (μ : Int → World → Nat) (h0 : I t23 w)
    (h : ∀ (t23 : Int) (w' : World), I t23 w' → B5 std out_5 t21 t22 t23 w' (fun e2 w2 => ∃ t23_n, e2 = emb5 out_5 t21 t22 t23_n ∧ I t23_n w2 ∧ μ t23_n w2 < μ t23 w') Q) :
    L5 std out_5 t21 t22 t23 w Q := by
  unfold L5
  refine LoopE.intro (σ := Int) (step := S5 std Q) (fun s => emb5 out_5 t21 t22 s) (fun s w => I s w) (fun s w => μ s w) t23 rfl h0 ?_
  intro s w' hI
  have h1 := h s w' hI
  unfold B5 at h1
  exact h1
theorem A5_0_eq (pr : Prims) (out_5 : Sl) (w : World) (R : Ending → World → Prop) : (q8 pr R) (.exit 0) (x0 out_5) w = (
  R (.returned (Sl.v out_5)) w) := by kernel_rfl
theorem A5_0_s (out_5 : Sl) (w : World) (R : Ending → World → Prop) : (q8 std R) (.exit 0) (x0 out_5) w = (
  R (.returned (Sl.v out_5)) w) := A5_0_eq std out_5 w R
theorem E_eq (pr : Prims) (list_0 : Sl) (n_1 : Int) (w : World) (R : Ending → World → Prop) : E pr list_0 n_1 w R = (
  pr.call1 .bool PP F.impl_IsBasis #[Sl.v list_0] w fun (ρ0 : Bool) ω1 =>
  bif !ρ0 then (
  R (.returned (Sl.v Sl.nil)) ω1)
  else (
  pr.pcall1 .bool PP F.impl_isSix #[vI n_1] fun (ρ2 : Bool) =>
  bif !ρ2 then (
  R (.returned (Sl.v Sl.nil)) ω1)
  else (
  pr.sem1 .sl PP (Instr.makeSlice T_Sint (vI (w64 (n_1 + 1))) (vI (w64 (n_1 + 1)))) ω1 fun (ρ3 : Sl) ω4 =>
  pr.call1 .sl PP F.impl_class #[Sl.v list_0, vI n_1] ω4 fun (ρ6 : Sl) ω7 =>
  L5 pr ρ3 ρ6 (ρ6.n : Int) 0 ω7 (q8 pr R)))) := by kernel_rfl
theorem E_s (list_0 : Sl) (n_1 : Int) (w : World) (R : Ending → World → Prop) : E std list_0 n_1 w R = (
  call1 .bool PP F.impl_IsBasis #[Sl.v list_0] w fun (ρ0 : Bool) ω1 =>
  bif !ρ0 then (
  R (.returned (Sl.v Sl.nil)) ω1)
  else (
  pcall1 .bool PP F.impl_isSix #[vI n_1] fun (ρ2 : Bool) =>
  bif !ρ2 then (
  R (.returned (Sl.v Sl.nil)) ω1)
  else (
  sem1 .sl PP (Instr.makeSlice T_Sint (vI (w64 (n_1 + 1))) (vI (w64 (n_1 + 1)))) ω1 fun (ρ3 : Sl) ω4 =>
  call1 .sl PP F.impl_class #[Sl.v list_0, vI n_1] ω4 fun (ρ6 : Sl) ω7 =>
  L5 std ρ3 ρ6 (ρ6.n : Int) 0 ω7 (q8 std R)))) := E_eq std list_0 n_1 w R
theorem drawsOk : drawsOk PP cfg okD (codeOf Try.f15) = true := by kernel_rfl
theorem calls (list_0 : Sl) (n_1 : Int) {w : World} {R : Ending → World → Prop} (h : E std list_0 n_1 w R) : Calls PP F.impl_LowCounts #[Sl.v list_0, vI n_1] w R :=
  calls_of noCount mixed drawOk Try.func15 rfl (c := cfg) (args := [Sl.v list_0, vI n_1]) rfl (Nat.le_of_ble_eq_true (by kernel_rfl)) drawsOk h
end impl_LowCounts

end Go.Proofs.Ytlcemelmnkipmaa

/- What each function does, step by step, written by a program (Gen.lean); each equation is checked by the kernel. -/
namespace Go.Proofs.Ytlcemelmnkipmaa
open Go
set_option linter.unusedVariables false
set_option maxRecDepth 100000
namespace impl_class
@[reducible] def cfg : Cfg := ⟨25, [(3, [0, 5, 10, 11, 12])], [(1, [0, 5, 10, 11, 12]), (0, [5])], [], [4], [], [29, 12, 74, 34, 92, 23, 62, 26, 37, 94], [72, 85, 91, 22, 40, 4, 43]⟩
def q2 (pr : Prims) (R : Ending → World → Prop) : Exit → Env → World → Prop := fun ex e w => normQ ex (fun e w => contE pr cfg (sub (codeOf Try.f41) [1, 1, 1]) (fun e w => wpC pr PP cfg (DD pr) (sub (codeOf Try.f41) [1, 1, 1]) (retQ Try.f41.results.toList R) e w) e w) (retQ Try.f41.results.toList R) e w
def q5 (pr : Prims) (R : Ending → World → Prop) : Exit → Env → World → Prop := fun ex e w => blockQ ex 0 (q2 pr R) e w
def emb3 (list_0 : Sl) (out_5 : Sl) (t10 : Sl) (t11 : Int) (t12 : Int) : Env := [(0, Sl.v list_0), (5, Sl.v out_5), (10, Sl.v t10), (11, vI t11), (12, vI t12)]
def x0 (out_5 : Sl) : Env := [(5, Sl.v out_5)]
def S3 (pr : Prims) (Q : Exit → Env → World → Prop) : (Env → World → Prop) → Env → World → Prop := fun k e w => wpC pr PP cfg (DD pr) (sub (codeOf Try.f41) [1, 1, 0, 1, 0, 0]) (fun ex e w => normQ ex (fun e' w' => k (Env.restr e' (lookN cfg.loops (keyOf (sub (codeOf Try.f41) [1, 1, 0, 1, 0, 0])))) w') Q e w) e w
def B3 (pr : Prims) (list_0 : Sl) (out_5 : Sl) (t10 : Sl) (t11 : Int) (t12 : Int) (w : World) (k : Env → World → Prop) (Q : Exit → Env → World → Prop) : Prop :=
  S3 pr Q k (emb3 list_0 out_5 t10 t11 t12) w
def L3 (pr : Prims) (list_0 : Sl) (out_5 : Sl) (t10 : Sl) (t11 : Int) (t12 : Int) (w : World) (Q : Exit → Env → World → Prop) : Prop :=
  pr.loop (S3 pr Q) (emb3 list_0 out_5 t10 t11 t12) w
def E (pr : Prims) (list_0 : Sl) (n_1 : Int) (w : World) (R : Ending → World → Prop) : Prop :=
  wpC pr PP cfg (DD pr) (codeOf Try.f41) (retQ Try.f41.results.toList R) (argE 0 [Sl.v list_0, vI n_1]) w
theorem B3_eq (pr : Prims) (list_0 : Sl) (out_5 : Sl) (t10 : Sl) (t11 : Int) (t12 : Int) (w : World) (k : Env → World → Prop) (Q : Exit → Env → World → Prop) : B3 pr list_0 out_5 t10 t11 t12 w k Q = (
  bif decide (t12 < t11) then (
  pr.idxK 1 t10 t12 fun (a6 : Addr) =>
  pr.load1 .sl a6 w fun (ξ7 : Sl) =>
  pr.call1 .bool PP F.impl_avoids #[Sl.v list_0, Sl.v ξ7] w fun (ρ8 : Bool) ω9 =>
  bif ρ8 then (
  pr.sem1 .sl PP (Instr.buildSlice T_SSint 1 #[(0, Sl.v ξ7)]) ω9 fun (ρ10 : Sl) ω11 =>
  pr.sem1 .sl PP (Builtin.append_ #[T_SSint, T_SSint] T_SSint #[Sl.v out_5, Sl.v ρ10]) ω11 fun (ρ12 : Sl) ω13 =>
  k (emb3 list_0 ρ12 t10 t11 (w64 (t12 + 1))) ω13)
  else (
  k (emb3 list_0 out_5 t10 t11 (w64 (t12 + 1))) ω9))
  else (
  Q (.exit 0) (x0 out_5) w)) := by kernel_rfl
theorem B3_s (list_0 : Sl) (out_5 : Sl) (t10 : Sl) (t11 : Int) (t12 : Int) (w : World) (k : Env → World → Prop) (Q : Exit → Env → World → Prop) : B3 std list_0 out_5 t10 t11 t12 w k Q = (
  bif decide (t12 < t11) then (
  idxK 1 t10 t12 fun (a6 : Addr) =>
  load1 .sl a6 w fun (ξ7 : Sl) =>
  call1 .bool PP F.impl_avoids #[Sl.v list_0, Sl.v ξ7] w fun (ρ8 : Bool) ω9 =>
  bif ρ8 then (
  sem1 .sl PP (Instr.buildSlice T_SSint 1 #[(0, Sl.v ξ7)]) ω9 fun (ρ10 : Sl) ω11 =>
  sem1 .sl PP (Builtin.append_ #[T_SSint, T_SSint] T_SSint #[Sl.v out_5, Sl.v ρ10]) ω11 fun (ρ12 : Sl) ω13 =>
  k (emb3 list_0 ρ12 t10 t11 (w64 (t12 + 1))) ω13)
  else (
  k (emb3 list_0 out_5 t10 t11 (w64 (t12 + 1))) ω9))
  else (
  Q (.exit 0) (x0 out_5) w)) := B3_eq std list_0 out_5 t10 t11 t12 w k Q
theorem L3_rule (list_0 : Sl) (out_5 : Sl) (t10 : Sl) (t11 : Int) (t12 : Int) (w : World) (Q : Exit → Env → World → Prop) (I : Sl → Int → World → Prop) (μ : Sl → Int → World → Nat) (h0 : I out_5 t12 w)
    (h : ∀ (out_5 : Sl) (t12 : Int) (w' : World), I out_5 t12 w' → B3 std list_0 out_5 t10 t11 t12 w' (fun e2 w2 => ∃ out_5_n t12_n, e2 = emb3 list_0 out_5_n t10 t11 t12_n ∧ I out_5_n t12_n w2 ∧ μ out_5_n t12_n w2 < μ out_5 t12 w') Q) :
    L3 std list_0 out_5 t10 t11 t12 w Q := by
  unfold L3
  refine LoopE.intro (σ := Sl × Int) (step := S3 std Q) (fun s => emb3 list_0 s.1 t10 t11 s.2) (fun s w => I s.1 s.2 w) (fun s w => μ s.1 s.2 w) (out_5, t12) rfl h0 ?_
  intro s w' hI
  have h1 := h s.1 s.2 w' hI
  unfold B3 at h1
  simp only [Prod.exists]
  exact h1
theorem A3_0_eq (pr : Prims) (out_5 : Sl) (w : World) (R : Ending → World → Prop) : (q5 pr R) (.exit 0) (x0 out_5) w = (
  R (.returned (Sl.v out_5)) w) := by kernel_rfl
theorem A3_0_s (out_5 : Sl) (w : World) (R : Ending → World → Prop) : (q5 std R) (.exit 0) (x0 out_5) w = (
  R (.returned (Sl.v out_5)) w) := A3_0_eq std out_5 w R
theorem E_eq (pr : Prims) (list_0 : Sl) (n_1 : Int) (w : World) (R : Ending → World → Prop) : E pr list_0 n_1 w R = (
  pr.sem1 .sl PP (Instr.buildSlice T_SSint 0 #[]) w fun (ρ0 : Sl) ω1 =>
  pr.call1 .sl PP F.impl_perms #[vI n_1] ω1 fun (ρ3 : Sl) ω4 =>
  L3 pr list_0 ρ0 ρ3 (ρ3.n : Int) 0 ω4 (q5 pr R)) := by kernel_rfl
theorem E_s (list_0 : Sl) (n_1 : Int) (w : World) (R : Ending → World → Prop) : E std list_0 n_1 w R = (
  sem1 .sl PP (Instr.buildSlice T_SSint 0 #[]) w fun (ρ0 : Sl) ω1 =>
  call1 .sl PP F.impl_perms #[vI n_1] ω1 fun (ρ3 : Sl) ω4 =>
  L3 std list_0 ρ0 ρ3 (ρ3.n : Int) 0 ω4 (q5 std R)) := E_eq std list_0 n_1 w R
theorem drawsOk : drawsOk PP cfg okD (codeOf Try.f41) = true := by kernel_rfl
theorem calls (list_0 : Sl) (n_1 : Int) {w : World} {R : Ending → World → Prop} (h : E std list_0 n_1 w R) : Calls PP F.impl_class #[Sl.v list_0, vI n_1] w R :=
  calls_of noCount mixed drawOk Try.func41 rfl (c := cfg) (args := [Sl.v list_0, vI n_1]) rfl (Nat.le_of_ble_eq_true (by kernel_rfl)) drawsOk h
end impl_class

namespace spec_ClassOf
@[reducible] def cfg : Cfg := ⟨40, [(6, [0, 5, 6, 7])], [(1, [0, 5, 6, 7]), (0, [5])], [], [4], [], [29, 12, 74, 34, 92, 23, 62, 26, 37, 94], [72, 85, 91, 22, 40, 4, 43]⟩
def q7 (pr : Prims) (R : Ending → World → Prop) : Exit → Env → World → Prop := fun ex e w => normQ ex (fun e w => contE pr cfg (sub (codeOf Try.f44) [1, 1, 1, 1, 1]) (fun e w => wpC pr PP cfg (DD pr) (sub (codeOf Try.f44) [1, 1, 1, 1, 1]) (retQ Try.f44.results.toList R) e w) e w) (retQ Try.f44.results.toList R) e w
def q8 (pr : Prims) (R : Ending → World → Prop) : Exit → Env → World → Prop := fun ex e w => blockQ ex 0 (q7 pr R) e w
def emb6 (list_0 : Sl) (out_5 : Sl) (all_6 : Sl) (k_7 : Int) : Env := [(0, Sl.v list_0), (5, Sl.v out_5), (6, Sl.v all_6), (7, vI k_7)]
def x0 (out_5 : Sl) : Env := [(5, Sl.v out_5)]
def S6 (pr : Prims) (Q : Exit → Env → World → Prop) : (Env → World → Prop) → Env → World → Prop := fun k e w => wpC pr PP cfg (DD pr) (sub (codeOf Try.f44) [1, 1, 1, 1, 0, 1, 0, 0]) (fun ex e w => normQ ex (fun e' w' => k (Env.restr e' (lookN cfg.loops (keyOf (sub (codeOf Try.f44) [1, 1, 1, 1, 0, 1, 0, 0])))) w') Q e w) e w
def B6 (pr : Prims) (list_0 : Sl) (out_5 : Sl) (all_6 : Sl) (k_7 : Int) (w : World) (k : Env → World → Prop) (Q : Exit → Env → World → Prop) : Prop :=
  S6 pr Q k (emb6 list_0 out_5 all_6 k_7) w
def L6 (pr : Prims) (list_0 : Sl) (out_5 : Sl) (all_6 : Sl) (k_7 : Int) (w : World) (Q : Exit → Env → World → Prop) : Prop :=
  pr.loop (S6 pr Q) (emb6 list_0 out_5 all_6 k_7) w
def E (pr : Prims) (list_0 : Sl) (n_1 : Int) (w : World) (R : Ending → World → Prop) : Prop :=
  wpC pr PP cfg (DD pr) (codeOf Try.f44) (retQ Try.f44.results.toList R) (argE 0 [Sl.v list_0, vI n_1]) w
theorem B6_eq (pr : Prims) (list_0 : Sl) (out_5 : Sl) (all_6 : Sl) (k_7 : Int) (w : World) (k : Env → World → Prop) (Q : Exit → Env → World → Prop) : B6 pr list_0 out_5 all_6 k_7 w k Q = (
  bif decide (k_7 < (all_6.n : Int)) then (
  pr.idxK 1 all_6 k_7 fun (a9 : Addr) =>
  pr.load1 .sl a9 w fun (ξ10 : Sl) =>
  pr.call1 .bool PP F.spec_l12Avoids #[Sl.v list_0, Sl.v ξ10] w fun (ρ11 : Bool) ω12 =>
  bif ρ11 then (
  pr.idxK 1 all_6 k_7 fun (a13 : Addr) =>
  pr.load1 .sl a13 ω12 fun (ξ14 : Sl) =>
  pr.sem1 .sl PP (Instr.buildSlice T_SSint 1 #[(0, Sl.v ξ14)]) ω12 fun (ρ15 : Sl) ω16 =>
  pr.sem1 .sl PP (Builtin.append_ #[T_SSint, T_SSint] T_SSint #[Sl.v out_5, Sl.v ρ15]) ω16 fun (ρ17 : Sl) ω18 =>
  k (emb6 list_0 ρ17 all_6 (w64 (k_7 + 1))) ω18)
  else (
  k (emb6 list_0 out_5 all_6 (w64 (k_7 + 1))) ω12))
  else (
  Q (.exit 0) (x0 out_5) w)) := by kernel_rfl
theorem B6_s (list_0 : Sl) (out_5 : Sl) (all_6 : Sl) (k_7 : Int) (w : World) (k : Env → World → Prop) (Q : Exit → Env → World → Prop) : B6 std list_0 out_5 all_6 k_7 w k Q = (
  bif decide (k_7 < (all_6.n : Int)) then (
  idxK 1 all_6 k_7 fun (a9 : Addr) =>
  load1 .sl a9 w fun (ξ10 : Sl) =>
  call1 .bool PP F.spec_l12Avoids #[Sl.v list_0, Sl.v ξ10] w fun (ρ11 : Bool) ω12 =>
  bif ρ11 then (
  idxK 1 all_6 k_7 fun (a13 : Addr) =>
  load1 .sl a13 ω12 fun (ξ14 : Sl) =>
  sem1 .sl PP (Instr.buildSlice T_SSint 1 #[(0, Sl.v ξ14)]) ω12 fun (ρ15 : Sl) ω16 =>
  sem1 .sl PP (Builtin.append_ #[T_SSint, T_SSint] T_SSint #[Sl.v out_5, Sl.v ρ15]) ω16 fun (ρ17 : Sl) ω18 =>
  k (emb6 list_0 ρ17 all_6 (w64 (k_7 + 1))) ω18)
  else (
  k (emb6 list_0 out_5 all_6 (w64 (k_7 + 1))) ω12))
  else (
  Q (.exit 0) (x0 out_5) w)) := B6_eq std list_0 out_5 all_6 k_7 w k Q
theorem L6_rule (list_0 : Sl) (out_5 : Sl) (all_6 : Sl) (k_7 : Int) (w : World) (Q : Exit → Env → World → Prop) (I : Sl → Int → World → Prop) (μ : Sl → Int → World → Nat) (h0 : I out_5 k_7 w)
    (h : ∀ (out_5 : Sl) (k_7 : Int) (w' : World), I out_5 k_7 w' → B6 std list_0 out_5 all_6 k_7 w' (fun e2 w2 => ∃ out_5_n k_7_n, e2 = emb6 list_0 out_5_n all_6 k_7_n ∧ I out_5_n k_7_n w2 ∧ μ out_5_n k_7_n w2 < μ out_5 k_7 w') Q) :
    L6 std list_0 out_5 all_6 k_7 w Q := by
  unfold L6
  refine LoopE.intro (σ := Sl × Int) (step := S6 std Q) (fun s => emb6 list_0 s.1 all_6 s.2) (fun s w => I s.1 s.2 w) (fun s w => μ s.1 s.2 w) (out_5, k_7) rfl h0 ?_
  intro s w' hI
  have h1 := h s.1 s.2 w' hI
  unfold B6 at h1
  simp only [Prod.exists]
  exact h1
theorem A6_0_eq (pr : Prims) (out_5 : Sl) (w : World) (R : Ending → World → Prop) : (q8 pr R) (.exit 0) (x0 out_5) w = (
  R (.returned (Sl.v out_5)) w) := by kernel_rfl
theorem A6_0_s (out_5 : Sl) (w : World) (R : Ending → World → Prop) : (q8 std R) (.exit 0) (x0 out_5) w = (
  R (.returned (Sl.v out_5)) w) := A6_0_eq std out_5 w R
theorem E_eq (pr : Prims) (list_0 : Sl) (n_1 : Int) (w : World) (R : Ending → World → Prop) : E pr list_0 n_1 w R = (
  pr.sem1 .sl PP (Instr.buildSlice T_SSint 0 #[]) w fun (ρ0 : Sl) ω1 =>
  pr.call1 .bool PP F.spec_IsBasis #[Sl.v list_0] ω1 fun (ρ2 : Bool) ω3 =>
  bif !ρ2 then (
  R (.returned (Sl.v ρ0)) ω3)
  else (
  pr.pcall1 .bool PP F.spec_l1In #[vI n_1, vI 0, vI 6] fun (ρ4 : Bool) =>
  bif !ρ4 then (
  R (.returned (Sl.v ρ0)) ω3)
  else (
  pr.call1 .sl PP F.spec_PermsOf #[vI n_1] ω3 fun (ρ5 : Sl) ω6 =>
  L6 pr list_0 ρ0 ρ5 0 ω6 (q8 pr R)))) := by kernel_rfl
theorem E_s (list_0 : Sl) (n_1 : Int) (w : World) (R : Ending → World → Prop) : E std list_0 n_1 w R = (
  sem1 .sl PP (Instr.buildSlice T_SSint 0 #[]) w fun (ρ0 : Sl) ω1 =>
  call1 .bool PP F.spec_IsBasis #[Sl.v list_0] ω1 fun (ρ2 : Bool) ω3 =>
  bif !ρ2 then (
  R (.returned (Sl.v ρ0)) ω3)
  else (
  pcall1 .bool PP F.spec_l1In #[vI n_1, vI 0, vI 6] fun (ρ4 : Bool) =>
  bif !ρ4 then (
  R (.returned (Sl.v ρ0)) ω3)
  else (
  call1 .sl PP F.spec_PermsOf #[vI n_1] ω3 fun (ρ5 : Sl) ω6 =>
  L6 std list_0 ρ0 ρ5 0 ω6 (q8 std R)))) := E_eq std list_0 n_1 w R
theorem drawsOk : drawsOk PP cfg okD (codeOf Try.f44) = true := by kernel_rfl
theorem calls (list_0 : Sl) (n_1 : Int) {w : World} {R : Ending → World → Prop} (h : E std list_0 n_1 w R) : Calls PP F.spec_ClassOf #[Sl.v list_0, vI n_1] w R :=
  calls_of noCount mixed drawOk Try.func44 rfl (c := cfg) (args := [Sl.v list_0, vI n_1]) rfl (Nat.le_of_ble_eq_true (by kernel_rfl)) drawsOk h
end spec_ClassOf

end Go.Proofs.Ytlcemelmnkipmaa

/- What each function does, step by step, written by a program (Gen.lean); each equation is checked by the kernel. -/
namespace Go.Proofs.Ytlcemelmnkipmaa
open Go
set_option linter.unusedVariables false
set_option maxRecDepth 100000
namespace impl_perms
@[reducible] def cfg : Cfg := ⟨41, [(9, [0, 4, 6, 7, 10, 11, 14, 15, 16]), (6, [0, 4, 10, 11, 14, 15, 16]), (3, [0, 3, 10, 11])], [(5, [0, 4, 6, 7, 10, 11, 14, 15, 16]), (4, [0, 4, 10, 11, 14, 15, 16]), (3, [0, 4, 10, 11, 14, 15, 16]), (2, [0, 4, 10, 11]), (1, [0, 3, 10, 11]), (0, [3])], [], [2], [], [29, 12, 74, 34, 92, 23, 62, 26, 37, 94], [72, 85, 91, 22, 40, 4, 43]⟩
def q4 (pr : Prims) (R : Ending → World → Prop) : Exit → Env → World → Prop := fun ex e w => normQ ex (fun e w => contE pr cfg (sub (codeOf Try.f60) [1, 1, 1]) (fun e w => wpC pr PP cfg (DD pr) (sub (codeOf Try.f60) [1, 1, 1]) (retQ Try.f60.results.toList R) e w) e w) (retQ Try.f60.results.toList R) e w
def q5 (pr : Prims) (R : Ending → World → Prop) : Exit → Env → World → Prop := fun ex e w => blockQ ex 0 (q4 pr R) e w
def q6 (pr : Prims) (k : Env → World → Prop) (Q : Exit → Env → World → Prop) : Exit → Env → World → Prop := fun ex e w => normQ ex (fun e w => contE pr cfg (sub (codeOf Try.f60) [1, 1, 0, 1, 0, 0, 1, 1, 1]) (fun e w => wpC pr PP cfg (DD pr) (sub (codeOf Try.f60) [1, 1, 0, 1, 0, 0, 1, 1, 1]) (fun ex e w => normQ ex (fun e' w' => k (Env.restr e' (lookN cfg.loops (keyOf (sub (codeOf Try.f60) [1, 1, 0, 1, 0, 0])))) w') Q e w) e w) e w) (fun ex e w => normQ ex (fun e' w' => k (Env.restr e' (lookN cfg.loops (keyOf (sub (codeOf Try.f60) [1, 1, 0, 1, 0, 0])))) w') Q e w) e w
def q7 (pr : Prims) (k : Env → World → Prop) (Q : Exit → Env → World → Prop) : Exit → Env → World → Prop := fun ex e w => blockQ ex 1 (q6 pr k Q) e w
def q10 (pr : Prims) (k : Env → World → Prop) (Q : Exit → Env → World → Prop) : Exit → Env → World → Prop := fun ex e w => normQ ex (fun e w => contE pr cfg (sub (codeOf Try.f60) [1, 1, 0, 1, 0, 0, 1, 1, 0, 0, 1, 1]) (fun e w => wpC pr PP cfg (DD pr) (sub (codeOf Try.f60) [1, 1, 0, 1, 0, 0, 1, 1, 0, 0, 1, 1]) (q7 pr k Q) e w) e w) (q7 pr k Q) e w
def q11 (pr : Prims) (k : Env → World → Prop) (Q : Exit → Env → World → Prop) : Exit → Env → World → Prop := fun ex e w => blockQ ex 2 (q10 pr k Q) e w
def q12 (pr : Prims) (k : Env → World → Prop) (Q : Exit → Env → World → Prop) : Exit → Env → World → Prop := fun ex e w => normQ ex (fun e w => contE pr cfg (sub (codeOf Try.f60) [1, 1, 0, 1, 0, 0, 1, 1, 0, 0, 1, 0, 1, 0, 0, 1, 1, 1]) (fun e w => wpC pr PP cfg (DD pr) (sub (codeOf Try.f60) [1, 1, 0, 1, 0, 0, 1, 1, 0, 0, 1, 0, 1, 0, 0, 1, 1, 1]) (fun ex e w => normQ ex (fun e' w' => k (Env.restr e' (lookN cfg.loops (keyOf (sub (codeOf Try.f60) [1, 1, 0, 1, 0, 0, 1, 1, 0, 0, 1, 0, 1, 0, 0])))) w') Q e w) e w) e w) (fun ex e w => normQ ex (fun e' w' => k (Env.restr e' (lookN cfg.loops (keyOf (sub (codeOf Try.f60) [1, 1, 0, 1, 0, 0, 1, 1, 0, 0, 1, 0, 1, 0, 0])))) w') Q e w) e w
def q13 (pr : Prims) (k : Env → World → Prop) (Q : Exit → Env → World → Prop) : Exit → Env → World → Prop := fun ex e w => blockQ ex 3 (q12 pr k Q) e w
def q16 (pr : Prims) (k : Env → World → Prop) (Q : Exit → Env → World → Prop) : Exit → Env → World → Prop := fun ex e w => blockQ ex 4 (q13 pr k Q) e w
def emb3 (n_0 : Int) (out_3 : Sl) (t10 : Int) (t11 : Int) : Env := [(0, vI n_0), (3, Sl.v out_3), (10, vI t10), (11, vI t11)]
def emb6 (n_0 : Int) (longer_4 : Sl) (t10 : Int) (t11 : Int) (t14 : Sl) (t15 : Int) (t16 : Int) : Env := [(0, vI n_0), (4, Sl.v longer_4), (10, vI t10), (11, vI t11), (14, Sl.v t14), (15, vI t15), (16, vI t16)]
def emb9 (n_0 : Int) (longer_4 : Sl) (p_6 : Sl) (v_7 : Int) (t10 : Int) (t11 : Int) (t14 : Sl) (t15 : Int) (t16 : Int) : Env := [(0, vI n_0), (4, Sl.v longer_4), (6, Sl.v p_6), (7, vI v_7), (10, vI t10), (11, vI t11), (14, Sl.v t14), (15, vI t15), (16, vI t16)]
def x4 (n_0 : Int) (longer_4 : Sl) (t10 : Int) (t11 : Int) (t14 : Sl) (t15 : Int) (t16 : Int) : Env := [(0, vI n_0), (4, Sl.v longer_4), (10, vI t10), (11, vI t11), (14, Sl.v t14), (15, vI t15), (16, vI t16)]
def x2 (n_0 : Int) (longer_4 : Sl) (t10 : Int) (t11 : Int) : Env := [(0, vI n_0), (4, Sl.v longer_4), (10, vI t10), (11, vI t11)]
def x0 (out_3 : Sl) : Env := [(3, Sl.v out_3)]
def S9 (pr : Prims) (Q : Exit → Env → World → Prop) : (Env → World → Prop) → Env → World → Prop := fun k e w => wpC pr PP cfg (DD pr) (sub (codeOf Try.f60) [1, 1, 0, 1, 0, 0, 1, 1, 0, 0, 1, 0, 1, 0, 0, 1, 1, 0, 0, 1, 1, 0, 0]) (fun ex e w => normQ ex (fun e' w' => k (Env.restr e' (lookN cfg.loops (keyOf (sub (codeOf Try.f60) [1, 1, 0, 1, 0, 0, 1, 1, 0, 0, 1, 0, 1, 0, 0, 1, 1, 0, 0, 1, 1, 0, 0])))) w') Q e w) e w
def S6 (pr : Prims) (Q : Exit → Env → World → Prop) : (Env → World → Prop) → Env → World → Prop := fun k e w => wpC pr PP cfg (DD pr) (sub (codeOf Try.f60) [1, 1, 0, 1, 0, 0, 1, 1, 0, 0, 1, 0, 1, 0, 0]) (fun ex e w => normQ ex (fun e' w' => k (Env.restr e' (lookN cfg.loops (keyOf (sub (codeOf Try.f60) [1, 1, 0, 1, 0, 0, 1, 1, 0, 0, 1, 0, 1, 0, 0])))) w') Q e w) e w
def S3 (pr : Prims) (Q : Exit → Env → World → Prop) : (Env → World → Prop) → Env → World → Prop := fun k e w => wpC pr PP cfg (DD pr) (sub (codeOf Try.f60) [1, 1, 0, 1, 0, 0]) (fun ex e w => normQ ex (fun e' w' => k (Env.restr e' (lookN cfg.loops (keyOf (sub (codeOf Try.f60) [1, 1, 0, 1, 0, 0])))) w') Q e w) e w
def B9 (pr : Prims) (n_0 : Int) (longer_4 : Sl) (p_6 : Sl) (v_7 : Int) (t10 : Int) (t11 : Int) (t14 : Sl) (t15 : Int) (t16 : Int) (w : World) (k : Env → World → Prop) (Q : Exit → Env → World → Prop) : Prop :=
  S9 pr Q k (emb9 n_0 longer_4 p_6 v_7 t10 t11 t14 t15 t16) w
def L9 (pr : Prims) (n_0 : Int) (longer_4 : Sl) (p_6 : Sl) (v_7 : Int) (t10 : Int) (t11 : Int) (t14 : Sl) (t15 : Int) (t16 : Int) (w : World) (Q : Exit → Env → World → Prop) : Prop :=
  pr.loop (S9 pr Q) (emb9 n_0 longer_4 p_6 v_7 t10 t11 t14 t15 t16) w
def B6 (pr : Prims) (n_0 : Int) (longer_4 : Sl) (t10 : Int) (t11 : Int) (t14 : Sl) (t15 : Int) (t16 : Int) (w : World) (k : Env → World → Prop) (Q : Exit → Env → World → Prop) : Prop :=
  S6 pr Q k (emb6 n_0 longer_4 t10 t11 t14 t15 t16) w
def L6 (pr : Prims) (n_0 : Int) (longer_4 : Sl) (t10 : Int) (t11 : Int) (t14 : Sl) (t15 : Int) (t16 : Int) (w : World) (Q : Exit → Env → World → Prop) : Prop :=
  pr.loop (S6 pr Q) (emb6 n_0 longer_4 t10 t11 t14 t15 t16) w
def B3 (pr : Prims) (n_0 : Int) (out_3 : Sl) (t10 : Int) (t11 : Int) (w : World) (k : Env → World → Prop) (Q : Exit → Env → World → Prop) : Prop :=
  S3 pr Q k (emb3 n_0 out_3 t10 t11) w
def L3 (pr : Prims) (n_0 : Int) (out_3 : Sl) (t10 : Int) (t11 : Int) (w : World) (Q : Exit → Env → World → Prop) : Prop :=
  pr.loop (S3 pr Q) (emb3 n_0 out_3 t10 t11) w
def E (pr : Prims) (n_0 : Int) (w : World) (R : Ending → World → Prop) : Prop :=
  wpC pr PP cfg (DD pr) (codeOf Try.f60) (retQ Try.f60.results.toList R) (argE 0 [vI n_0]) w
theorem B9_eq (pr : Prims) (n_0 : Int) (longer_4 : Sl) (p_6 : Sl) (v_7 : Int) (t10 : Int) (t11 : Int) (t14 : Sl) (t15 : Int) (t16 : Int) (w : World) (k : Env → World → Prop) (Q : Exit → Env → World → Prop) : B9 pr n_0 longer_4 p_6 v_7 t10 t11 t14 t15 t16 w k Q = (
  bif decide (v_7 ≤ n_0) then (
  pr.call1 .bool PP F.slices_Contains___int_int_ #[Sl.v p_6, vI v_7] w fun (ρ17 : Bool) ω18 =>
  bif !ρ17 then (
  pr.call1 .sl PP F.slices_Clone___int_int_ #[Sl.v p_6] ω18 fun (ρ19 : Sl) ω20 =>
  pr.sem1 .sl PP (Instr.buildSlice T_Sint 1 #[(0, vI v_7)]) ω20 fun (ρ21 : Sl) ω22 =>
  pr.sem1 .sl PP (Builtin.append_ #[T_Sint, T_Sint] T_Sint #[Sl.v ρ19, Sl.v ρ21]) ω22 fun (ρ23 : Sl) ω24 =>
  pr.sem1 .sl PP (Instr.buildSlice T_SSint 1 #[(0, Sl.v ρ23)]) ω24 fun (ρ25 : Sl) ω26 =>
  pr.sem1 .sl PP (Builtin.append_ #[T_SSint, T_SSint] T_SSint #[Sl.v longer_4, Sl.v ρ25]) ω26 fun (ρ27 : Sl) ω28 =>
  k (emb9 n_0 ρ27 p_6 (w64 (v_7 + 1)) t10 t11 t14 t15 t16) ω28)
  else (
  k (emb9 n_0 longer_4 p_6 (w64 (v_7 + 1)) t10 t11 t14 t15 t16) ω18))
  else (
  Q (.exit 4) (x4 n_0 longer_4 t10 t11 t14 t15 t16) w)) := by kernel_rfl
theorem B9_s (n_0 : Int) (longer_4 : Sl) (p_6 : Sl) (v_7 : Int) (t10 : Int) (t11 : Int) (t14 : Sl) (t15 : Int) (t16 : Int) (w : World) (k : Env → World → Prop) (Q : Exit → Env → World → Prop) : B9 std n_0 longer_4 p_6 v_7 t10 t11 t14 t15 t16 w k Q = (
  bif decide (v_7 ≤ n_0) then (
  call1 .bool PP F.slices_Contains___int_int_ #[Sl.v p_6, vI v_7] w fun (ρ17 : Bool) ω18 =>
  bif !ρ17 then (
  call1 .sl PP F.slices_Clone___int_int_ #[Sl.v p_6] ω18 fun (ρ19 : Sl) ω20 =>
  sem1 .sl PP (Instr.buildSlice T_Sint 1 #[(0, vI v_7)]) ω20 fun (ρ21 : Sl) ω22 =>
  sem1 .sl PP (Builtin.append_ #[T_Sint, T_Sint] T_Sint #[Sl.v ρ19, Sl.v ρ21]) ω22 fun (ρ23 : Sl) ω24 =>
  sem1 .sl PP (Instr.buildSlice T_SSint 1 #[(0, Sl.v ρ23)]) ω24 fun (ρ25 : Sl) ω26 =>
  sem1 .sl PP (Builtin.append_ #[T_SSint, T_SSint] T_SSint #[Sl.v longer_4, Sl.v ρ25]) ω26 fun (ρ27 : Sl) ω28 =>
  k (emb9 n_0 ρ27 p_6 (w64 (v_7 + 1)) t10 t11 t14 t15 t16) ω28)
  else (
  k (emb9 n_0 longer_4 p_6 (w64 (v_7 + 1)) t10 t11 t14 t15 t16) ω18))
  else (
  Q (.exit 4) (x4 n_0 longer_4 t10 t11 t14 t15 t16) w)) := B9_eq std n_0 longer_4 p_6 v_7 t10 t11 t14 t15 t16 w k Q
theorem L9_rule (n_0 : Int) (longer_4 : Sl) (p_6 : Sl) (v_7 : Int) (t10 : Int) (t11 : Int) (t14 : Sl) (t15 : Int) (t16 : Int) (w : World) (Q : Exit → Env → World → Prop) (I : Sl → Int → World → Prop) (μ : Sl → Int → World → Nat) (h0 : I longer_4 v_7 w)
    (h : ∀ (longer_4 : Sl) (v_7 : Int) (w' : World), I longer_4 v_7 w' → B9 std n_0 longer_4 p_6 v_7 t10 t11 t14 t15 t16 w' (fun e2 w2 => ∃ longer_4_n v_7_n, e2 = emb9 n_0 longer_4_n p_6 v_7_n t10 t11 t14 t15 t16 ∧ I longer_4_n v_7_n w2 ∧ μ longer_4_n v_7_n w2 < μ longer_4 v_7 w') Q) :
    L9 std n_0 longer_4 p_6 v_7 t10 t11 t14 t15 t16 w Q := by
  unfold L9
  refine LoopE.intro (σ := Sl × Int) (step := S9 std Q) (fun s => emb9 n_0 s.1 p_6 s.2 t10 t11 t14 t15 t16) (fun s w => I s.1 s.2 w) (fun s w => μ s.1 s.2 w) (longer_4, v_7) rfl h0 ?_
  intro s w' hI
  have h1 := h s.1 s.2 w' hI
  unfold B9 at h1
  simp only [Prod.exists]
  exact h1
theorem A9_4_eq (pr : Prims) (n_0 : Int) (longer_4 : Sl) (t10 : Int) (t11 : Int) (t14 : Sl) (t15 : Int) (t16 : Int) (w : World) (k : Env → World → Prop) (Q : Exit → Env → World → Prop) : (q16 pr k Q) (.exit 4) (x4 n_0 longer_4 t10 t11 t14 t15 t16) w = (
  k (emb6 n_0 longer_4 t10 t11 t14 t15 (w64 (t16 + 1))) w) := by kernel_rfl
theorem A9_4_s (n_0 : Int) (longer_4 : Sl) (t10 : Int) (t11 : Int) (t14 : Sl) (t15 : Int) (t16 : Int) (w : World) (k : Env → World → Prop) (Q : Exit → Env → World → Prop) : (q16 std k Q) (.exit 4) (x4 n_0 longer_4 t10 t11 t14 t15 t16) w = (
  k (emb6 n_0 longer_4 t10 t11 t14 t15 (w64 (t16 + 1))) w) := A9_4_eq std n_0 longer_4 t10 t11 t14 t15 t16 w k Q
theorem B6_eq (pr : Prims) (n_0 : Int) (longer_4 : Sl) (t10 : Int) (t11 : Int) (t14 : Sl) (t15 : Int) (t16 : Int) (w : World) (k : Env → World → Prop) (Q : Exit → Env → World → Prop) : B6 pr n_0 longer_4 t10 t11 t14 t15 t16 w k Q = (
  bif decide (t16 < t15) then (
  pr.idxK 1 t14 t16 fun (a14 : Addr) =>
  pr.load1 .sl a14 w fun (ξ15 : Sl) =>
  L9 pr n_0 longer_4 ξ15 1 t10 t11 t14 t15 t16 w (q16 pr k Q))
  else (
  Q (.exit 2) (x2 n_0 longer_4 t10 t11) w)) := by kernel_rfl
theorem B6_s (n_0 : Int) (longer_4 : Sl) (t10 : Int) (t11 : Int) (t14 : Sl) (t15 : Int) (t16 : Int) (w : World) (k : Env → World → Prop) (Q : Exit → Env → World → Prop) : B6 std n_0 longer_4 t10 t11 t14 t15 t16 w k Q = (
  bif decide (t16 < t15) then (
  idxK 1 t14 t16 fun (a14 : Addr) =>
  load1 .sl a14 w fun (ξ15 : Sl) =>
  L9 std n_0 longer_4 ξ15 1 t10 t11 t14 t15 t16 w (q16 std k Q))
  else (
  Q (.exit 2) (x2 n_0 longer_4 t10 t11) w)) := B6_eq std n_0 longer_4 t10 t11 t14 t15 t16 w k Q
theorem L6_rule (n_0 : Int) (longer_4 : Sl) (t10 : Int) (t11 : Int) (t14 : Sl) (t15 : Int) (t16 : Int) (w : World) (Q : Exit → Env → World → Prop) (I : Sl → Int → World → Prop) (μ : Sl → Int → World → Nat) (h0 : I longer_4 t16 w)
    (h : ∀ (longer_4 : Sl) (t16 : Int) (w' : World), I longer_4 t16 w' → B6 std n_0 longer_4 t10 t11 t14 t15 t16 w' (fun e2 w2 => ∃ longer_4_n t16_n, e2 = emb6 n_0 longer_4_n t10 t11 t14 t15 t16_n ∧ I longer_4_n t16_n w2 ∧ μ longer_4_n t16_n w2 < μ longer_4 t16 w') Q) :
    L6 std n_0 longer_4 t10 t11 t14 t15 t16 w Q := by
  unfold L6
  refine LoopE.intro (σ := Sl × Int) (step := S6 std Q) (fun s => emb6 n_0 s.1 t10 t11 t14 t15 s.2) (fun s w => I s.1 s.2 w) (fun s w => μ s.1 s.2 w) (longer_4, t16) rfl h0 ?_
  intro s w' hI
  have h1 := h s.1 s.2 w' hI
  unfold B6 at h1
  simp only [Prod.exists]
  exact h1
theorem A6_2_eq (pr : Prims) (n_0 : Int) (longer_4 : Sl) (t10 : Int) (t11 : Int) (w : World) (k : Env → World → Prop) (Q : Exit → Env → World → Prop) : (q11 pr k Q) (.exit 2) (x2 n_0 longer_4 t10 t11) w = (
  k (emb3 n_0 longer_4 t10 (w64 (t11 + 1))) w) := by kernel_rfl
theorem A6_2_s (n_0 : Int) (longer_4 : Sl) (t10 : Int) (t11 : Int) (w : World) (k : Env → World → Prop) (Q : Exit → Env → World → Prop) : (q11 std k Q) (.exit 2) (x2 n_0 longer_4 t10 t11) w = (
  k (emb3 n_0 longer_4 t10 (w64 (t11 + 1))) w) := A6_2_eq std n_0 longer_4 t10 t11 w k Q
theorem A6_4_eq (pr : Prims) (n_0 : Int) (longer_4 : Sl) (t10 : Int) (t11 : Int) (t14 : Sl) (t15 : Int) (t16 : Int) (w : World) (k : Env → World → Prop) (Q : Exit → Env → World → Prop) : (q11 pr k Q) (.exit 4) (x4 n_0 longer_4 t10 t11 t14 t15 t16) w = (
  Q (.exit 4) (x4 n_0 longer_4 t10 t11 t14 t15 t16) w) := by kernel_rfl
theorem A6_4_s (n_0 : Int) (longer_4 : Sl) (t10 : Int) (t11 : Int) (t14 : Sl) (t15 : Int) (t16 : Int) (w : World) (k : Env → World → Prop) (Q : Exit → Env → World → Prop) : (q11 std k Q) (.exit 4) (x4 n_0 longer_4 t10 t11 t14 t15 t16) w = (
  Q (.exit 4) (x4 n_0 longer_4 t10 t11 t14 t15 t16) w) := A6_4_eq std n_0 longer_4 t10 t11 t14 t15 t16 w k Q
theorem B3_eq (pr : Prims) (n_0 : Int) (out_3 : Sl) (t10 : Int) (t11 : Int) (w : World) (k : Env → World → Prop) (Q : Exit → Env → World → Prop) : B3 pr n_0 out_3 t10 t11 w k Q = (
  bif decide (t11 < t10) then (
  pr.sem1 .sl PP (Instr.buildSlice T_SSint 0 #[]) w fun (ρ8 : Sl) ω9 =>
  L6 pr n_0 ρ8 t10 t11 out_3 (out_3.n : Int) 0 ω9 (q11 pr k Q))
  else (
  Q (.exit 0) (x0 out_3) w)) := by kernel_rfl
theorem B3_s (n_0 : Int) (out_3 : Sl) (t10 : Int) (t11 : Int) (w : World) (k : Env → World → Prop) (Q : Exit → Env → World → Prop) : B3 std n_0 out_3 t10 t11 w k Q = (
  bif decide (t11 < t10) then (
  sem1 .sl PP (Instr.buildSlice T_SSint 0 #[]) w fun (ρ8 : Sl) ω9 =>
  L6 std n_0 ρ8 t10 t11 out_3 (out_3.n : Int) 0 ω9 (q11 std k Q))
  else (
  Q (.exit 0) (x0 out_3) w)) := B3_eq std n_0 out_3 t10 t11 w k Q
theorem L3_rule (n_0 : Int) (out_3 : Sl) (t10 : Int) (t11 : Int) (w : World) (Q : Exit → Env → World → Prop) (I : Sl → Int → World → Prop) (μ : Sl → Int → World → Nat) (h0 : I out_3 t11 w)
    (h : ∀ (out_3 : Sl) (t11 : Int) (w' : World), I out_3 t11 w' → B3 std n_0 out_3 t10 t11 w' (fun e2 w2 => ∃ out_3_n t11_n, e2 = emb3 n_0 out_3_n t10 t11_n ∧ I out_3_n t11_n w2 ∧ μ out_3_n t11_n w2 < μ out_3 t11 w') Q) :
    L3 std n_0 out_3 t10 t11 w Q := by
  unfold L3
  refine LoopE.intro (σ := Sl × Int) (step := S3 std Q) (fun s => emb3 n_0 s.1 t10 s.2) (fun s w => I s.1 s.2 w) (fun s w => μ s.1 s.2 w) (out_3, t11) rfl h0 ?_
  intro s w' hI
  have h1 := h s.1 s.2 w' hI
  unfold B3 at h1
  simp only [Prod.exists]
  exact h1
theorem A3_0_eq (pr : Prims) (out_3 : Sl) (w : World) (R : Ending → World → Prop) : (q5 pr R) (.exit 0) (x0 out_3) w = (
  R (.returned (Sl.v out_3)) w) := by kernel_rfl
theorem A3_0_s (out_3 : Sl) (w : World) (R : Ending → World → Prop) : (q5 std R) (.exit 0) (x0 out_3) w = (
  R (.returned (Sl.v out_3)) w) := A3_0_eq std out_3 w R
theorem E_eq (pr : Prims) (n_0 : Int) (w : World) (R : Ending → World → Prop) : E pr n_0 w R = (
  pr.sem1 .sl PP (Instr.buildSlice T_Sint 0 #[]) w fun (ρ0 : Sl) ω1 =>
  pr.sem1 .sl PP (Instr.buildSlice T_SSint 1 #[(0, Sl.v ρ0)]) ω1 fun (ρ2 : Sl) ω3 =>
  L3 pr n_0 ρ2 n_0 0 ω3 (q5 pr R)) := by kernel_rfl
theorem E_s (n_0 : Int) (w : World) (R : Ending → World → Prop) : E std n_0 w R = (
  sem1 .sl PP (Instr.buildSlice T_Sint 0 #[]) w fun (ρ0 : Sl) ω1 =>
  sem1 .sl PP (Instr.buildSlice T_SSint 1 #[(0, Sl.v ρ0)]) ω1 fun (ρ2 : Sl) ω3 =>
  L3 std n_0 ρ2 n_0 0 ω3 (q5 std R)) := E_eq std n_0 w R
theorem drawsOk : drawsOk PP cfg okD (codeOf Try.f60) = true := by kernel_rfl
theorem calls (n_0 : Int) {w : World} {R : Ending → World → Prop} (h : E std n_0 w R) : Calls PP F.impl_perms #[vI n_0] w R :=
  calls_of noCount mixed drawOk Try.func60 rfl (c := cfg) (args := [vI n_0]) rfl (Nat.le_of_ble_eq_true (by kernel_rfl)) drawsOk h
end impl_perms

namespace slices_Contains___int_int_
@[reducible] def cfg : Cfg := ⟨9, [], [], [], [4], [], [29, 12, 74, 34, 92, 23, 62, 26, 37, 94], [72, 85, 91, 22, 40, 4, 43]⟩
def E (pr : Prims) (s_0 : Sl) (v_1 : Int) (w : World) (R : Ending → World → Prop) : Prop :=
  wpC pr PP cfg (DD pr) (codeOf Try.f74) (retQ Try.f74.results.toList R) (argE 0 [Sl.v s_0, vI v_1]) w
theorem E_eq (pr : Prims) (s_0 : Sl) (v_1 : Int) (w : World) (R : Ending → World → Prop) : E pr s_0 v_1 w R = (
  pr.call1 (.int .i64) PP F.slices_Index___int_int_ #[Sl.v s_0, vI v_1] w fun (ρ0 : Int) ω1 =>
  R (.returned (.bool (decide (ρ0 ≥ 0)))) ω1) := by kernel_rfl
theorem E_s (s_0 : Sl) (v_1 : Int) (w : World) (R : Ending → World → Prop) : E std s_0 v_1 w R = (
  call1 (.int .i64) PP F.slices_Index___int_int_ #[Sl.v s_0, vI v_1] w fun (ρ0 : Int) ω1 =>
  R (.returned (.bool (decide (ρ0 ≥ 0)))) ω1) := E_eq std s_0 v_1 w R
theorem drawsOk : drawsOk PP cfg okD (codeOf Try.f74) = true := by kernel_rfl
theorem calls (s_0 : Sl) (v_1 : Int) {w : World} {R : Ending → World → Prop} (h : E std s_0 v_1 w R) : Calls PP F.slices_Contains___int_int_ #[Sl.v s_0, vI v_1] w R :=
  calls_of noCount mixed drawOk Try.func74 rfl (c := cfg) (args := [Sl.v s_0, vI v_1]) rfl (Nat.le_of_ble_eq_true (by kernel_rfl)) drawsOk h
end slices_Contains___int_int_

namespace slices_Index___int_int_
@[reducible] def cfg : Cfg := ⟨19, [(2, [0, 1, 7, 8])], [(1, [0, 1, 7, 8]), (0, [])], [], [4], [], [29, 12, 74, 34, 92, 23, 62, 26, 37, 94], [72, 85, 91, 22, 40, 4, 43]⟩
def q0 (pr : Prims) (R : Ending → World → Prop) : Exit → Env → World → Prop := fun ex e w => normQ ex (fun e w => contE pr cfg (sub (codeOf Try.f92) [1, 1]) (fun e w => wpC pr PP cfg (DD pr) (sub (codeOf Try.f92) [1, 1]) (retQ Try.f92.results.toList R) e w) e w) (retQ Try.f92.results.toList R) e w
def q1 (pr : Prims) (R : Ending → World → Prop) : Exit → Env → World → Prop := fun ex e w => blockQ ex 0 (q0 pr R) e w
def emb2 (s_0 : Sl) (v_1 : Int) (t7 : Int) (t8 : Int) : Env := [(0, Sl.v s_0), (1, vI v_1), (7, vI t7), (8, vI t8)]
def x0 : Env := []
def S2 (pr : Prims) (Q : Exit → Env → World → Prop) : (Env → World → Prop) → Env → World → Prop := fun k e w => wpC pr PP cfg (DD pr) (sub (codeOf Try.f92) [1, 0, 1, 0, 0]) (fun ex e w => normQ ex (fun e' w' => k (Env.restr e' (lookN cfg.loops (keyOf (sub (codeOf Try.f92) [1, 0, 1, 0, 0])))) w') Q e w) e w
def B2 (pr : Prims) (s_0 : Sl) (v_1 : Int) (t7 : Int) (t8 : Int) (w : World) (k : Env → World → Prop) (Q : Exit → Env → World → Prop) : Prop :=
  S2 pr Q k (emb2 s_0 v_1 t7 t8) w
def L2 (pr : Prims) (s_0 : Sl) (v_1 : Int) (t7 : Int) (t8 : Int) (w : World) (Q : Exit → Env → World → Prop) : Prop :=
  pr.loop (S2 pr Q) (emb2 s_0 v_1 t7 t8) w
def E (pr : Prims) (s_0 : Sl) (v_1 : Int) (w : World) (R : Ending → World → Prop) : Prop :=
  wpC pr PP cfg (DD pr) (codeOf Try.f92) (retQ Try.f92.results.toList R) (argE 0 [Sl.v s_0, vI v_1]) w
theorem B2_eq (pr : Prims) (s_0 : Sl) (v_1 : Int) (t7 : Int) (t8 : Int) (w : World) (k : Env → World → Prop) (Q : Exit → Env → World → Prop) : B2 pr s_0 v_1 t7 t8 w k Q = (
  bif decide (t8 < t7) then (
  pr.idxK 1 s_0 t8 fun (a2 : Addr) =>
  pr.load1 (.int .i64) a2 w fun (ξ3 : Int) =>
  bif v_1 == ξ3 then (
  Q .ret [(4, vI t8)] w)
  else (
  k (emb2 s_0 v_1 t7 (w64 (t8 + 1))) w))
  else (
  Q (.exit 0) (x0) w)) := by kernel_rfl
theorem B2_s (s_0 : Sl) (v_1 : Int) (t7 : Int) (t8 : Int) (w : World) (k : Env → World → Prop) (Q : Exit → Env → World → Prop) : B2 std s_0 v_1 t7 t8 w k Q = (
  bif decide (t8 < t7) then (
  idxK 1 s_0 t8 fun (a2 : Addr) =>
  load1 (.int .i64) a2 w fun (ξ3 : Int) =>
  bif v_1 == ξ3 then (
  Q .ret [(4, vI t8)] w)
  else (
  k (emb2 s_0 v_1 t7 (w64 (t8 + 1))) w))
  else (
  Q (.exit 0) (x0) w)) := B2_eq std s_0 v_1 t7 t8 w k Q
theorem L2_rule (s_0 : Sl) (v_1 : Int) (t7 : Int) (t8 : Int) (w : World) (Q : Exit → Env → World → Prop) (I : Int → World → Prop) (μ : Int → World → Nat) (h0 : I t8 w)
    (h : ∀ (t8 : Int) (w' : World), I t8 w' → B2 std s_0 v_1 t7 t8 w' (fun e2 w2 => ∃ t8_n, e2 = emb2 s_0 v_1 t7 t8_n ∧ I t8_n w2 ∧ μ t8_n w2 < μ t8 w') Q) :
    L2 std s_0 v_1 t7 t8 w Q := by
  unfold L2
  refine LoopE.intro (σ := Int) (step := S2 std Q) (fun s => emb2 s_0 v_1 t7 s) (fun s w => I s w) (fun s w => μ s w) t8 rfl h0 ?_
  intro s w' hI
  have h1 := h s w' hI
  unfold B2 at h1
  exact h1
theorem A2_0_eq (pr : Prims) (w : World) (R : Ending → World → Prop) : (q1 pr R) (.exit 0) (x0) w = (
  R (.returned (vI (-1))) w) := by kernel_rfl
theorem A2_0_s (w : World) (R : Ending → World → Prop) : (q1 std R) (.exit 0) (x0) w = (
  R (.returned (vI (-1))) w) := A2_0_eq std w R
theorem R2_eq (pr : Prims) (v4 : Value) (w : World) (R : Ending → World → Prop) : (q1 pr R) .ret [(4, v4)] w = (
  R (.returned (v4)) w) := by kernel_rfl
theorem R2_s (v4 : Value) (w : World) (R : Ending → World → Prop) : (q1 std R) .ret [(4, v4)] w = (
  R (.returned (v4)) w) := R2_eq std v4 w R
theorem E_eq (pr : Prims) (s_0 : Sl) (v_1 : Int) (w : World) (R : Ending → World → Prop) : E pr s_0 v_1 w R = (
  L2 pr s_0 v_1 (s_0.n : Int) 0 w (q1 pr R)) := by kernel_rfl
theorem E_s (s_0 : Sl) (v_1 : Int) (w : World) (R : Ending → World → Prop) : E std s_0 v_1 w R = (
  L2 std s_0 v_1 (s_0.n : Int) 0 w (q1 std R)) := E_eq std s_0 v_1 w R
theorem drawsOk : drawsOk PP cfg okD (codeOf Try.f92) = true := by kernel_rfl
theorem calls (s_0 : Sl) (v_1 : Int) {w : World} {R : Ending → World → Prop} (h : E std s_0 v_1 w R) : Calls PP F.slices_Index___int_int_ #[Sl.v s_0, vI v_1] w R :=
  calls_of noCount mixed drawOk Try.func92 rfl (c := cfg) (args := [Sl.v s_0, vI v_1]) rfl (Nat.le_of_ble_eq_true (by kernel_rfl)) drawsOk h
end slices_Index___int_int_

namespace spec_l2Fill
@[reducible] def cfg : Cfg := ⟨35, [(4, [0, 1, 2, 7])], [(1, [0, 1, 2, 7]), (0, [2])], [], [6], [], [29, 12, 74, 34, 92, 23, 62, 26, 37, 94], [72, 85, 91, 22, 40, 4, 43]⟩
def q4 (pr : Prims) (R : Ending → World → Prop) : Exit → Env → World → Prop := fun ex e w => normQ ex (fun e w => contE pr cfg (sub (codeOf Try.f78) [1, 1, 1]) (fun e w => wpC pr PP cfg (DD pr) (sub (codeOf Try.f78) [1, 1, 1]) (retQ Try.f78.results.toList R) e w) e w) (retQ Try.f78.results.toList R) e w
def q5 (pr : Prims) (R : Ending → World → Prop) : Exit → Env → World → Prop := fun ex e w => blockQ ex 0 (q4 pr R) e w
def emb4 (n_0 : Int) (head_1 : Sl) (out_2 : Sl) (v_7 : Int) : Env := [(0, vI n_0), (1, Sl.v head_1), (2, Sl.v out_2), (7, vI v_7)]
def x0 (out_2 : Sl) : Env := [(2, Sl.v out_2)]
def S4 (pr : Prims) (Q : Exit → Env → World → Prop) : (Env → World → Prop) → Env → World → Prop := fun k e w => wpC pr PP cfg (DD pr) (sub (codeOf Try.f78) [1, 1, 0, 1, 0, 0]) (fun ex e w => normQ ex (fun e' w' => k (Env.restr e' (lookN cfg.loops (keyOf (sub (codeOf Try.f78) [1, 1, 0, 1, 0, 0])))) w') Q e w) e w
def B4 (pr : Prims) (n_0 : Int) (head_1 : Sl) (out_2 : Sl) (v_7 : Int) (w : World) (k : Env → World → Prop) (Q : Exit → Env → World → Prop) : Prop :=
  S4 pr Q k (emb4 n_0 head_1 out_2 v_7) w
def L4 (pr : Prims) (n_0 : Int) (head_1 : Sl) (out_2 : Sl) (v_7 : Int) (w : World) (Q : Exit → Env → World → Prop) : Prop :=
  pr.loop (S4 pr Q) (emb4 n_0 head_1 out_2 v_7) w
def E (pr : Prims) (n_0 : Int) (head_1 : Sl) (out_2 : Sl) (w : World) (R : Ending → World → Prop) : Prop :=
  wpC pr PP cfg (DD pr) (codeOf Try.f78) (retQ Try.f78.results.toList R) (argE 0 [vI n_0, Sl.v head_1, Sl.v out_2]) w
theorem B4_eq (pr : Prims) (n_0 : Int) (head_1 : Sl) (out_2 : Sl) (v_7 : Int) (w : World) (k : Env → World → Prop) (Q : Exit → Env → World → Prop) : B4 pr n_0 head_1 out_2 v_7 w k Q = (
  bif decide (v_7 ≤ n_0) then (
  pr.call1 .bool PP F.spec_l2Has #[Sl.v head_1, vI v_7] w fun (ρ6 : Bool) ω7 =>
  bif !ρ6 then (
  pr.sem1 .sl PP (Instr.buildSlice T_Sint 0 #[]) ω7 fun (ρ8 : Sl) ω9 =>
  pr.sem1 .sl PP (Builtin.append_ #[T_Sint, T_Sint] T_Sint #[Sl.v ρ8, Sl.v head_1]) ω9 fun (ρ10 : Sl) ω11 =>
  pr.sem1 .sl PP (Instr.buildSlice T_Sint 1 #[(0, vI v_7)]) ω11 fun (ρ12 : Sl) ω13 =>
  pr.sem1 .sl PP (Builtin.append_ #[T_Sint, T_Sint] T_Sint #[Sl.v ρ10, Sl.v ρ12]) ω13 fun (ρ14 : Sl) ω15 =>
  pr.call1 .sl PP F.spec_l2Fill #[vI n_0, Sl.v ρ14, Sl.v out_2] ω15 fun (ρ16 : Sl) ω17 =>
  k (emb4 n_0 head_1 ρ16 (w64 (v_7 + 1))) ω17)
  else (
  k (emb4 n_0 head_1 out_2 (w64 (v_7 + 1))) ω7))
  else (
  Q (.exit 0) (x0 out_2) w)) := by kernel_rfl
theorem B4_s (n_0 : Int) (head_1 : Sl) (out_2 : Sl) (v_7 : Int) (w : World) (k : Env → World → Prop) (Q : Exit → Env → World → Prop) : B4 std n_0 head_1 out_2 v_7 w k Q = (
  bif decide (v_7 ≤ n_0) then (
  call1 .bool PP F.spec_l2Has #[Sl.v head_1, vI v_7] w fun (ρ6 : Bool) ω7 =>
  bif !ρ6 then (
  sem1 .sl PP (Instr.buildSlice T_Sint 0 #[]) ω7 fun (ρ8 : Sl) ω9 =>
  sem1 .sl PP (Builtin.append_ #[T_Sint, T_Sint] T_Sint #[Sl.v ρ8, Sl.v head_1]) ω9 fun (ρ10 : Sl) ω11 =>
  sem1 .sl PP (Instr.buildSlice T_Sint 1 #[(0, vI v_7)]) ω11 fun (ρ12 : Sl) ω13 =>
  sem1 .sl PP (Builtin.append_ #[T_Sint, T_Sint] T_Sint #[Sl.v ρ10, Sl.v ρ12]) ω13 fun (ρ14 : Sl) ω15 =>
  call1 .sl PP F.spec_l2Fill #[vI n_0, Sl.v ρ14, Sl.v out_2] ω15 fun (ρ16 : Sl) ω17 =>
  k (emb4 n_0 head_1 ρ16 (w64 (v_7 + 1))) ω17)
  else (
  k (emb4 n_0 head_1 out_2 (w64 (v_7 + 1))) ω7))
  else (
  Q (.exit 0) (x0 out_2) w)) := B4_eq std n_0 head_1 out_2 v_7 w k Q
theorem L4_rule (n_0 : Int) (head_1 : Sl) (out_2 : Sl) (v_7 : Int) (w : World) (Q : Exit → Env → World → Prop) (I : Sl → Int → World → Prop) (μ : Sl → Int → World → Nat) (h0 : I out_2 v_7 w)
    (h : ∀ (out_2 : Sl) (v_7 : Int) (w' : World), I out_2 v_7 w' → B4 std n_0 head_1 out_2 v_7 w' (fun e2 w2 => ∃ out_2_n v_7_n, e2 = emb4 n_0 head_1 out_2_n v_7_n ∧ I out_2_n v_7_n w2 ∧ μ out_2_n v_7_n w2 < μ out_2 v_7 w') Q) :
    L4 std n_0 head_1 out_2 v_7 w Q := by
  unfold L4
  refine LoopE.intro (σ := Sl × Int) (step := S4 std Q) (fun s => emb4 n_0 head_1 s.1 s.2) (fun s w => I s.1 s.2 w) (fun s w => μ s.1 s.2 w) (out_2, v_7) rfl h0 ?_
  intro s w' hI
  have h1 := h s.1 s.2 w' hI
  unfold B4 at h1
  simp only [Prod.exists]
  exact h1
theorem A4_0_eq (pr : Prims) (out_2 : Sl) (w : World) (R : Ending → World → Prop) : (q5 pr R) (.exit 0) (x0 out_2) w = (
  R (.returned (Sl.v out_2)) w) := by kernel_rfl
theorem A4_0_s (out_2 : Sl) (w : World) (R : Ending → World → Prop) : (q5 std R) (.exit 0) (x0 out_2) w = (
  R (.returned (Sl.v out_2)) w) := A4_0_eq std out_2 w R
theorem E_eq (pr : Prims) (n_0 : Int) (head_1 : Sl) (out_2 : Sl) (w : World) (R : Ending → World → Prop) : E pr n_0 head_1 out_2 w R = (
  bif (head_1.n : Int) == n_0 then (
  pr.sem1 .sl PP (Instr.buildSlice T_SSint 1 #[(0, Sl.v head_1)]) w fun (ρ0 : Sl) ω1 =>
  pr.sem1 .sl PP (Builtin.append_ #[T_SSint, T_SSint] T_SSint #[Sl.v out_2, Sl.v ρ0]) ω1 fun (ρ2 : Sl) ω3 =>
  R (.returned (Sl.v ρ2)) ω3)
  else (
  L4 pr n_0 head_1 out_2 1 w (q5 pr R))) := by kernel_rfl
theorem E_s (n_0 : Int) (head_1 : Sl) (out_2 : Sl) (w : World) (R : Ending → World → Prop) : E std n_0 head_1 out_2 w R = (
  bif (head_1.n : Int) == n_0 then (
  sem1 .sl PP (Instr.buildSlice T_SSint 1 #[(0, Sl.v head_1)]) w fun (ρ0 : Sl) ω1 =>
  sem1 .sl PP (Builtin.append_ #[T_SSint, T_SSint] T_SSint #[Sl.v out_2, Sl.v ρ0]) ω1 fun (ρ2 : Sl) ω3 =>
  R (.returned (Sl.v ρ2)) ω3)
  else (
  L4 std n_0 head_1 out_2 1 w (q5 std R))) := E_eq std n_0 head_1 out_2 w R
theorem drawsOk : drawsOk PP cfg okD (codeOf Try.f78) = true := by kernel_rfl
theorem calls (n_0 : Int) (head_1 : Sl) (out_2 : Sl) {w : World} {R : Ending → World → Prop} (h : E std n_0 head_1 out_2 w R) : Calls PP F.spec_l2Fill #[vI n_0, Sl.v head_1, Sl.v out_2] w R :=
  calls_of noCount mixed drawOk Try.func78 rfl (c := cfg) (args := [vI n_0, Sl.v head_1, Sl.v out_2]) rfl (Nat.le_of_ble_eq_true (by kernel_rfl)) drawsOk h
end spec_l2Fill

namespace spec_PermsOf
@[reducible] def cfg : Cfg := ⟨11, [], [], [], [2], [], [29, 12, 74, 34, 92, 23, 62, 26, 37, 94], [72, 85, 91, 22, 40, 4, 43]⟩
def E (pr : Prims) (n_0 : Int) (w : World) (R : Ending → World → Prop) : Prop :=
  wpC pr PP cfg (DD pr) (codeOf Try.f64) (retQ Try.f64.results.toList R) (argE 0 [vI n_0]) w
theorem E_eq (pr : Prims) (n_0 : Int) (w : World) (R : Ending → World → Prop) : E pr n_0 w R = (
  pr.pcall1 .bool PP F.spec_l1In #[vI n_0, vI 0, vI 6] fun (ρ0 : Bool) =>
  bif !ρ0 then (
  pr.sem1 .sl PP (Instr.buildSlice T_SSint 0 #[]) w fun (ρ1 : Sl) ω2 =>
  R (.returned (Sl.v ρ1)) ω2)
  else (
  pr.sem1 .sl PP (Instr.buildSlice T_Sint 0 #[]) w fun (ρ3 : Sl) ω4 =>
  pr.sem1 .sl PP (Instr.buildSlice T_SSint 0 #[]) ω4 fun (ρ5 : Sl) ω6 =>
  pr.call1 .sl PP F.spec_l2Fill #[vI n_0, Sl.v ρ3, Sl.v ρ5] ω6 fun (ρ7 : Sl) ω8 =>
  R (.returned (Sl.v ρ7)) ω8)) := by kernel_rfl
theorem E_s (n_0 : Int) (w : World) (R : Ending → World → Prop) : E std n_0 w R = (
  pcall1 .bool PP F.spec_l1In #[vI n_0, vI 0, vI 6] fun (ρ0 : Bool) =>
  bif !ρ0 then (
  sem1 .sl PP (Instr.buildSlice T_SSint 0 #[]) w fun (ρ1 : Sl) ω2 =>
  R (.returned (Sl.v ρ1)) ω2)
  else (
  sem1 .sl PP (Instr.buildSlice T_Sint 0 #[]) w fun (ρ3 : Sl) ω4 =>
  sem1 .sl PP (Instr.buildSlice T_SSint 0 #[]) ω4 fun (ρ5 : Sl) ω6 =>
  call1 .sl PP F.spec_l2Fill #[vI n_0, Sl.v ρ3, Sl.v ρ5] ω6 fun (ρ7 : Sl) ω8 =>
  R (.returned (Sl.v ρ7)) ω8)) := E_eq std n_0 w R
theorem drawsOk : drawsOk PP cfg okD (codeOf Try.f64) = true := by kernel_rfl
theorem calls (n_0 : Int) {w : World} {R : Ending → World → Prop} (h : E std n_0 w R) : Calls PP F.spec_PermsOf #[vI n_0] w R :=
  calls_of noCount mixed drawOk Try.func64 rfl (c := cfg) (args := [vI n_0]) rfl (Nat.le_of_ble_eq_true (by kernel_rfl)) drawsOk h
end spec_PermsOf

end Go.Proofs.Ytlcemelmnkipmaa

/- All permutations of a length: plain facts. -/
namespace Go.Proofs.Ytlcemelmnkipmaa
open Go
set_option maxRecDepth 100000

def extV (n : Nat) (p : List Int) : List (List Int) := (idn n).flatMap fun v => if v ∈ p then [] else [p ++ [v]]
def lvl (n : Nat) : Nat → List (List Int)
  | 0 => [[]]
  | k + 1 => (lvl n k).flatMap (extV n)
def permsV (n : Nat) : List (List Int) := lvl n n
def fillN (n : Nat) : Nat → List Int → List (List Int)
  | 0, h => [h]
  | m + 1, h => (idn n).flatMap fun v => if v ∈ h then [] else fillN n m (h ++ [v])
theorem fillN_ext (n m : Nat) (h : List Int) : (extV n h).flatMap (fillN n m) = fillN n (m + 1) h := by
  rw [extV, List.flatMap_assoc, fillN]
  congr 1
  funext v
  split <;> simp
theorem fillN_lvl (n : Nat) : ∀ k m, (lvl n k).flatMap (fillN n m) = fillN n (k + m) []
  | 0, m => by simp [lvl]
  | k + 1, m => by
    rw [lvl, List.flatMap_assoc]
    have : (fun x => List.flatMap (fillN n m) (extV n x)) = fillN n (m + 1) := by funext h; exact fillN_ext n m h
    rw [this, fillN_lvl n k (m + 1)]
    congr 1; omega
theorem fillN_permsV (n : Nat) : fillN n n [] = permsV n := by
  have := fillN_lvl n n 0
  rw [Nat.add_zero] at this
  rw [← this, permsV]
  have : ∀ l : List (List Int), l.flatMap (fillN n 0) = l := fun l => by
    induction l with
    | nil => rfl
    | cons x r ih => rw [List.flatMap_cons, ih, fillN]; rfl
  rw [this]
theorem mem_extV {n : Nat} {p q : List Int} : q ∈ extV n p ↔ ∃ v, v ∈ idn n ∧ v ∉ p ∧ q = p ++ [v] := by
  simp only [extV, List.mem_flatMap]
  constructor
  · rintro ⟨v, h1, h2⟩
    split at h2
    · simp at h2
    · rename_i h3; exact ⟨v, h1, h3, by simpa using h2⟩
  · rintro ⟨v, h1, h2, h3⟩
    exact ⟨v, h1, by rw [if_neg h2]; simp [h3]⟩
theorem mem_lvl {n : Nat} : ∀ {k : Nat} {p : List Int}, p ∈ lvl n k ↔ p.length = k ∧ p.Nodup ∧ ∀ x ∈ p, x ∈ idn n
  | 0, p => by
    simp only [lvl, List.mem_singleton]
    constructor
    · rintro rfl; simp
    · rintro ⟨h, _⟩; exact List.eq_nil_of_length_eq_zero h
  | k + 1, p => by
    simp only [lvl, List.mem_flatMap, mem_extV, mem_lvl (k := k)]
    constructor
    · rintro ⟨q, ⟨h1, h2, h3⟩, v, h4, h5, rfl⟩
      refine ⟨by simp [h1], ?_, fun x hx => ?_⟩
      · rw [List.nodup_append]
        exact ⟨h2, by simp, fun a ha b hb e => by simp at hb; subst hb; subst e; exact h5 ha⟩
      · rcases List.mem_append.1 hx with h6 | h6
        · exact h3 x h6
        · simp at h6; subst h6; exact h4
    · rintro ⟨h1, h2, h3⟩
      obtain ⟨q, v, rfl⟩ : ∃ q v, p = q ++ [v] := ⟨p.dropLast, p.getLast (by rintro rfl; simp at h1), (List.dropLast_concat_getLast _).symm⟩
      rw [List.nodup_append] at h2
      refine ⟨q, ⟨by simpa using h1, h2.1, fun x hx => h3 x (by simp [hx])⟩, v, h3 v (by simp), fun hv => h2.2.2 v hv v (by simp) rfl, rfl⟩
theorem mem_permsV {n : Nat} {p : List Int} : p ∈ permsV n ↔ p.Perm (idn n) := by
  rw [permsV, mem_lvl]
  constructor
  · rintro ⟨h1, h2, h3⟩; exact perm_of_nodup h2 (fun x hx => mem_idn.1 (h3 x hx)) h1
  · intro h; exact ⟨by rw [h.length_eq, idn_length], h.nodup_iff.2 (idn_nodup n), fun x hx => h.mem_iff.1 hx⟩
theorem permsV_isP {n : Nat} (hn : n ≤ 8) {p : List Int} (h : p ∈ permsV n) : IsP p := isP_of (mem_permsV.1 h) hn
theorem permsV_len {n : Nat} {p : List Int} (h : p ∈ permsV n) : p.length = n := by rw [(mem_permsV.1 h).length_eq, idn_length]
theorem extV_length (n : Nat) (p : List Int) : (extV n p).length ≤ n := by
  unfold extV
  have : ∀ l : List Int, (l.flatMap fun v => if v ∈ p then [] else [p ++ [v]]).length ≤ l.length := fun l => by
    induction l with
    | nil => simp
    | cons x r ih =>
      rw [List.flatMap_cons, List.length_append, List.length_cons]
      have h1 : (if x ∈ p then [] else [p ++ [x]]).length ≤ 1 := by split <;> simp
      omega
  have h := this (idn n)
  rwa [idn_length] at h
theorem flatMap_len_le {α β : Type} (l : List α) (f : α → List β) (c : Nat) (h : ∀ x ∈ l, (f x).length ≤ c) : (l.flatMap f).length ≤ l.length * c := by
  induction l with
  | nil => simp
  | cons x r ih =>
    have h1 := h x (by simp)
    have h2 := ih (fun y hy => h y (by simp [hy]))
    simp only [List.flatMap_cons, List.length_append, List.length_cons, Nat.succ_mul]
    omega
theorem lvl_length (n : Nat) : ∀ k, (lvl n k).length ≤ n ^ k
  | 0 => by simp [lvl]
  | k + 1 => by
    rw [lvl, Nat.pow_succ]
    exact Nat.le_trans (flatMap_len_le _ _ n (fun x _ => extV_length n x)) (Nat.mul_le_mul_right _ (lvl_length n k))
theorem fillN_length (n : Nat) : ∀ m h, (fillN n m h).length ≤ n ^ m
  | 0, h => by simp [fillN]
  | m + 1, h => by
    rw [fillN, Nat.pow_succ, Nat.mul_comm]
    refine Nat.le_trans (flatMap_len_le _ _ (n ^ m) (fun v _ => ?_)) (by rw [idn_length]; exact Nat.le_refl _)
    split
    · simp
    · exact fillN_length n m _
theorem permsV_length (n : Nat) : (permsV n).length ≤ n ^ n := lvl_length n n
/-- idn, by steps -/
theorem idn_take_flat {β : Type} (f : Int → List β) {v : Int} (hv : 1 ≤ v) : (idn v.toNat).flatMap f = (idn (v - 1).toNat).flatMap f ++ f v := by
  rw [show v.toNat = (v - 1).toNat + 1 by omega, idn_succ, List.flatMap_append]
  simp only [List.flatMap_cons, List.flatMap_nil, List.append_nil]
  congr 2; omega
end Go.Proofs.Ytlcemelmnkipmaa

/- All permutations of a length: the model's list and the program's. -/
namespace Go.Proofs.Ytlcemelmnkipmaa
open Go Go.RowKit
set_option maxRecDepth 100000

def idxW (L : List Int) (v : Int) : Int := if L.findIdx (fun x => v == x) < L.length then (L.findIdx (fun x => v == x) : Int) else -1
theorem idxW_nonneg {L : List Int} {v : Int} : 0 ≤ idxW L v ↔ v ∈ L := by
  unfold idxW
  split
  · rename_i h
    rw [List.findIdx_lt_length] at h
    obtain ⟨x, h1, h2⟩ := h
    have : v = x := by simpa using h2
    subst this
    exact ⟨fun _ => h1, fun _ => by omega⟩
  · rename_i h
    rw [List.findIdx_lt_length] at h
    exact ⟨fun h0 => by omega, fun h0 => absurd ⟨v, h0, by simp⟩ h⟩
theorem c_Index {w : World} {a : Sl} {L : List Int} (ha : RowI w a L) (hL : L.length < 2^38) (v : Int) : Quiet F.slices_Index___int_int_ #[a.v, vI v] w (vI (idxW L v)) := by
  intro w1 hd
  have han : a.n = L.length := by have := ha.n; simpa using this
  refine slices_Index___int_int_.calls a v ?_
  rw [slices_Index___int_int_.E_s]
  refine slices_Index___int_int_.L2_rule _ _ _ _ _ _ (I := fun k w' => w' = w1 ∧ 0 ≤ k ∧ k ≤ L.length ∧ ∀ j, j < k.toNat → v ≠ L.getD j 0) (μ := fun k _ => (L.length - k).toNat) ⟨rfl, by omega, by omega, fun j hj => by simp at hj⟩ ?_
  rintro k w' ⟨rfl, h0, hk, hall⟩
  rw [slices_Index___int_int_.B2_s]
  refine bif_dec (fun h3 => ?_) (fun h3 => ?_)
  · have hlt : k.toNat < L.length := by omega
    refine RowI.get (ha.heap hd.heap') h0 (by omega) ?_
    refine bif_intro (fun h4 => ?_) (fun h4 => ?_)
    · rw [slices_Index___int_int_.R2_s]
      refine ⟨?_, Drew.refl _⟩
      have h4 : v = L.getD k.toNat 0 := by simpa using h4
      have : L.findIdx (fun x => v == x) = k.toNat := by
        rw [List.findIdx_eq hlt]
        refine ⟨by rw [← getD_lt hlt]; simpa using h4, fun j hj => ?_⟩
        have := hall j hj
        rw [getD_lt (by omega)] at this
        simpa using this
      rw [idxW, this, if_pos hlt]
      congr 2; omega
    · refine ⟨k + 1, by rw [w64_succ h0 (by omega)], ⟨rfl, by omega, by omega, fun j hj => ?_⟩, by omega⟩
      by_cases e : j = k.toNat
      · rw [e]; simpa using h4
      · exact hall j (by omega)
  · rw [slices_Index___int_int_.A2_0_s]
    refine ⟨?_, Drew.refl _⟩
    rw [idxW, if_neg]
    intro h5
    rw [List.findIdx_lt_length] at h5
    obtain ⟨x, h6, h7⟩ := h5
    obtain ⟨i, hi, rfl⟩ := List.getElem_of_mem h6
    have := hall i (by omega)
    rw [getD_lt hi] at this
    exact this (by simpa using h7)
open Classical in
theorem c_Contains {w : World} {a : Sl} {L : List Int} (ha : RowI w a L) (hL : L.length < 2^38) (v : Int) : Quiet F.slices_Contains___int_int_ #[a.v, vI v] w (.bool (decide (v ∈ L))) := by
  intro w1 hd
  refine slices_Contains___int_int_.calls a v ?_
  rw [slices_Contains___int_int_.E_s]
  refine (c_Index ha hL v w1 hd).mono ?_
  rintro e w2 ⟨rfl, hd2⟩
  refine ⟨_, rfl, ?_, hd2⟩
  congr 2
  simp only [ge_iff_le, idxW_nonneg]

theorem flat_snoc {α β : Type} (l : List α) (x : α) (f : α → List β) : (l ++ [x]).flatMap f = l.flatMap f ++ f x := by simp

theorem c_perms {w : World} (n : Nat) (hn : n ≤ 8) :
    Calls PP F.impl_perms #[vI n] w fun e w' => ∃ s : Sl, e = .returned s.v ∧ OwnSS w' w.heap.size s (permsV n) ∧ Below w.heap.size w w' := by
  refine impl_perms.calls n ?_
  rw [impl_perms.E_s]
  refine lit0 oneInt (B := w.heap.size) (Nat.le_refl _) ?_
  intro s0 w1 h0 hg1 hc1
  have hb1 := below_of_grow hg1
  refine lit1 oneSint (B := w.heap.size) hb1.size (One.sl s0) ?_
  intro t0 w2 ht0 hg2 hn2
  have hb2 := hb1.grown hg2 hb1.size (by simp)
  have hst : OwnSS w2 w.heap.size t0 (lvl n 0) := by
    refine ⟨[s0], ht0, rfl, fun i r L e1 e2 => ?_, fun i j r t hij e1 e2 => ?_⟩
    · cases i with
      | zero => simp [lvl] at e1 e2; subst e1 e2; exact h0.kept hg2 (fun _ _ => by simp)
      | succ i => simp at e1
    · cases i with
      | zero => cases j with
        | zero => exact absurd rfl hij
        | succ j => simp at e2
      | succ i => simp at e1
  have h88 : ∀ k, k ≤ n → (lvl n k).length ≤ 8 ^ 8 := fun k hk =>
    Nat.le_trans (lvl_length n k) (Nat.le_trans (Nat.pow_le_pow_left hn k) (Nat.pow_le_pow_right (by omega) (by omega)))
  refine impl_perms.L3_rule _ _ _ _ _ _ (I := fun out k w' => 0 ≤ k ∧ k ≤ n ∧ OwnSS w' w.heap.size out (lvl n k.toNat) ∧ Below w.heap.size w w') (μ := fun _ k _ => (n - k).toNat) ⟨by omega, by omega, hst, hb2⟩ ?_
  rintro out k w' ⟨hk0, hk, ho, hb⟩
  rw [impl_perms.B3_s]
  refine bif_dec (fun h3 => ?_) (fun h3 => ?_)
  · refine lit0 oneSint (B := w'.heap.size) (Nat.le_refl _) ?_
    intro l0 w3 hl0 hg3 _
    have hb3 := below_of_grow hg3
    have hon := ho.row.n
    have hkn := h88 k.toNat (by omega)
    rw [hon]
    refine impl_perms.L6_rule _ _ _ _ _ _ _ _ _ (I := fun lo i w4 => 0 ≤ i ∧ i ≤ (lvl n k.toNat).length ∧ OwnSS w4 w'.heap.size lo (((lvl n k.toNat).take i.toNat).flatMap (extV n)) ∧ Below w'.heap.size w' w4) (μ := fun _ i _ => ((lvl n k.toNat).length - i).toNat)
      ⟨by omega, by omega, OwnSS.nil hl0, hb3⟩ ?_
    rintro lo i w4 ⟨hi0, hi, hlo, hb4⟩
    rw [impl_perms.B6_s]
    refine bif_dec (fun h5 => ?_) (fun h5 => ?_)
    · have hlt : i.toNat < (lvl n k.toNat).length := by omega
      refine RowSS.getB ho.row hb4 hi0 (by omega) fun r hr => ?_
      rw [getD_SS hlt] at hr
      have hmem := List.getElem_mem hlt
      generalize hpe : (lvl n k.toNat)[i.toNat] = p at hr hmem
      have hplen : p.length = k.toNat := (mem_lvl.1 hmem).1
      have hcnt : (((lvl n k.toNat).take i.toNat).flatMap (extV n)).length ≤ 8 ^ 8 * 8 := by
        refine Nat.le_trans (flatMap_len_le _ _ 8 (fun x _ => Nat.le_trans (extV_length n x) hn)) (Nat.mul_le_mul_right _ ?_)
        rw [List.length_take]; omega
      have hcnt2 : ∀ v : Nat, v ≤ n → ((idn v).flatMap fun v => if v ∈ p then [] else [p ++ [v]]).length ≤ 8 := fun v hv => by
        refine Nat.le_trans (flatMap_len_le _ _ 1 (fun x _ => by split <;> simp)) ?_
        rw [idn_length]; omega
      refine impl_perms.L9_rule _ _ _ _ _ _ _ _ _ _ _ (I := fun lo2 v w5 => 1 ≤ v ∧ v ≤ n + 1 ∧ OwnSS w5 w'.heap.size lo2 (((lvl n k.toNat).take i.toNat).flatMap (extV n) ++ (idn (v - 1).toNat).flatMap fun v => if v ∈ p then [] else [p ++ [v]]) ∧ Below w'.heap.size w' w5) (μ := fun _ v _ => (n + 1 - v).toNat)
        ⟨by omega, by omega, by simpa [idn] using hlo, hb4⟩ ?_
      rintro lo2 v w5 ⟨hv1, hv, hlo2, hb5⟩
      rw [impl_perms.B9_s]
      refine bif_dec (fun h6 => ?_) (fun h6 => ?_)
      · refine Quiet.call1 (s := .bool) (c_Contains (hr.grow hb5) (by omega) v) ?_
        intro w6 hd6
        have hb6 := hb5.trans (hd6.below _)
        have hstep := idn_take_flat (fun v => if v ∈ p then [] else [p ++ [v]]) hv1
        have e1 : (v + 1 - 1).toNat = v.toNat := by omega
        refine bif_intro (fun h7 => ?_) (fun h7 => ?_)
        · have h7 : v ∉ p := by simpa using h7
          refine (c_Clone (hr.grow hb6) (by omega)).mono ?_
          rintro e w7 ⟨s, rfl, hs, hb67⟩
          refine ⟨s, rfl, ?_⟩
          refine append_int hs hb67.size (by omega) ?_
          intro t w8 ht hg8 _
          have hb68 := hb67.grown hg8 hb67.size (fun g hg => (hs.lt g hg).1)
          have hlo6 := hlo2.heap hd6.heap'
          have := hcnt2 (v - 1).toNat (by omega)
          refine append_new hlo6 hb68 hb6.size ht (by rw [List.length_append]; omega) ?_
          intro lo3 w9 hlo3 hg9 _
          refine ⟨lo3, v + 1, by rw [w64_succ (by omega) (by omega)], ⟨by omega, by omega, ?_, (hb6.trans (hb68.mono hb6.size)).grown hg9 (Nat.le_trans hb6.size hb68.size) (fun g hg => (hlo6.lt g hg).1)⟩, by omega⟩
          rw [e1, hstep, if_neg h7, ← List.append_assoc]
          exact hlo3
        · have h7 : v ∈ p := by simpa using h7
          refine ⟨lo2, v + 1, by rw [w64_succ (by omega) (by omega)], ⟨by omega, by omega, ?_, hb6⟩, by omega⟩
          rw [e1, hstep, if_pos h7, List.append_nil]
          exact hlo2.heap hd6.heap'
      · rw [impl_perms.A9_4_s]
        refine ⟨lo2, i + 1, by rw [w64_succ hi0 (by omega)], ⟨by omega, by omega, ?_, hb5⟩, by omega⟩
        rw [show (v - 1).toNat = n by omega] at hlo2
        rw [show (i + 1).toNat = i.toNat + 1 by omega, List.take_succ_eq_append_getElem hlt, flat_snoc, hpe]
        exact hlo2
    · rw [impl_perms.A6_2_s]
      rw [show i.toNat = (lvl n k.toNat).length by omega, List.take_length] at hlo
      refine ⟨lo, k + 1, by rw [w64_succ hk0 (by omega)], ⟨by omega, by omega, ?_, hb.trans (hb4.mono hb.size)⟩, by omega⟩
      rw [show (k + 1).toNat = k.toNat + 1 by omega, lvl]
      exact hlo.mono hb.size
  · rw [impl_perms.A3_0_s]
    rw [show k.toNat = n by omega] at ho
    exact ⟨out, rfl, ho, hb⟩
theorem c_l2Fill {w0 : World} (n : Nat) (hn : n ≤ 8) : ∀ (m : Nat) (w : World) (hd out : Sl) (rs : List Sl) (h : List Int) (LL : List (List Int)),
    Below w0.heap.size w0 w → OwnRows w w0.heap.size out rs LL → OwnI w w0.heap.size hd h → (∀ t ∈ rs, Apt t hd) → h.length + m = n → LL.length + 8 ^ m ≤ 2^30 →
    Calls PP F.spec_l2Fill #[vI n, hd.v, out.v] w fun e w' => ∃ s : Sl, e = .returned s.v ∧ OwnSS w' w0.heap.size s (LL ++ fillN n m h) ∧ w.grownBy w' out.blk ∧ Next w out s
  | 0, w, hd, out, rs, h, LL, hb, ho, hh, hap, hl, hc => by
    have hdn : hd.n = h.length := by have := hh.n; simpa using this
    refine spec_l2Fill.calls n hd out ?_
    rw [spec_l2Fill.E_s]
    refine bif_t (by simp; omega) ?_
    refine append_sl ho hb.size hh hap (by omega) ?_
    intro s' w' h1 h2 h3
    exact ⟨s', rfl, ⟨_, h1⟩, h2, h3⟩
  | m + 1, w, hd, out, rs, h, LL, hb, ho, hh, hap, hl, hc => by
    have hdn : hd.n = h.length := by have := hh.n; simpa using this
    refine spec_l2Fill.calls n hd out ?_
    rw [spec_l2Fill.E_s]
    refine bif_f (by simp; omega) ?_
    refine spec_l2Fill.L4_rule _ _ _ _ _ _ (I := fun s v w' => 1 ≤ v ∧ v ≤ n + 1 ∧ OwnSS w' w0.heap.size s (LL ++ (idn (v - 1).toNat).flatMap fun v => if v ∈ h then [] else fillN n m (h ++ [v])) ∧ w.grownBy w' out.blk ∧ Next w out s) (μ := fun _ v _ => (n + 1 - v).toNat)
      ⟨by omega, by omega, by simpa [idn] using ⟨rs, ho⟩, grownBy_refl _ _, fun g hg => .inl hg⟩ ?_
    rintro s v w' ⟨hv1, hv, hs, hg, hn2⟩
    have hbw : Below w0.heap.size w0 w' := hb.grown hg hb.size (fun g hg => (ho.out.lt g hg).1)
    have hh' : OwnI w' w0.heap.size hd h := hh.kept hg (fun g hg' e => (ho.out.apt hh (by decide)) g e hg')
    rw [spec_l2Fill.B4_s]
    refine bif_dec (fun h3 => ?_) (fun h3 => ?_)
    · refine Quiet.call1 (s := .bool) (c_l2Has hh'.row (by omega) v) ?_
      intro w1 hd1
      have hb1 : Below w'.heap.size w' w1 := hd1.below _
      obtain ⟨rs', hs⟩ := hs
      have hstep := idn_take_flat (fun v => if v ∈ h then [] else fillN n m (h ++ [v])) hv1
      have e1 : (v + 1 - 1).toNat = v.toNat := by omega
      have hcnt : ((idn (v - 1).toNat).flatMap fun v => if v ∈ h then [] else fillN n m (h ++ [v])).length ≤ 7 * 8 ^ m := by
        refine Nat.le_trans (flatMap_len_le _ _ (8 ^ m) (fun y hy => ?_)) ?_
        · split
          · simp
          · exact Nat.le_trans (fillN_length n m _) (Nat.pow_le_pow_left hn m)
        · rw [idn_length]; exact Nat.mul_le_mul_right _ (by omega)
      have hpow : 8 ^ (m + 1) = 8 * 8 ^ m := by rw [Nat.pow_succ]; omega
      refine bif_intro (fun h5 => ?_) (fun h5 => ?_)
      · have h5 : v ∉ h := by simpa using h5
        refine lit0 oneInt (B := w'.heap.size) hb1.size ?_
        intro t1 w2 ht1 hg1 _
        have hb2 := hb1.grown hg1 hb1.size (by simp)
        refine append_row oneInt ht1 hb2.size (hh'.row.grow hb2) (fun v hv => by obtain ⟨y, _, rfl⟩ := List.mem_map.1 hv; exact One.int y) (by simp; omega) ?_
        intro t2 w3 ht2 hg2 _ _
        have ht2 : OwnI w3 w'.heap.size t2 h := by simpa [OwnI] using ht2
        have hb3 := hb2.grown hg2 hb2.size (fun g hg => (ht1.lt g hg).1)
        refine append_int ht2 hb3.size (by omega) ?_
        intro t3 w4 ht3 hg3 _
        have hb4 := hb3.grown hg3 hb3.size (fun g hg => (ht2.lt g hg).1)
        have hb04 : Below w0.heap.size w0 w4 := hbw.trans (hb4.mono hbw.size)
        have hs4 := hs.grow hb4
        refine (c_l2Fill n hn m w4 t3 s rs' (h ++ [v]) _ hb04 hs4 (ht3.mono hbw.size) (fun t ht => Apt.of_lt (fun g hg => (hs.lt ht hg).2) (fun g hg => (ht3.lt g hg).1)) (by simp; omega) (by rw [List.length_append]; omega)).mono ?_
        rintro e w5 ⟨s5, rfl, hs5, hg5, hn5⟩
        refine ⟨s5, rfl, s5, v + 1, by rw [w64_id (by omega) (by omega)], ⟨by omega, by omega, ?_, ?_, ?_⟩, by omega⟩
        · rw [e1, hstep, if_neg h5, ← List.append_assoc]; exact hs5
        · refine ⟨hg5.os.trans (hb4.os.trans hg.os), hg5.tape.trans (hb4.tape.trans hg.tape), hg5.output.trans (hb4.output.trans hg.output), Nat.le_trans hg.size (Nat.le_trans hb4.size hg5.size), fun k hk hne => ?_⟩
          have hk' : k < w'.heap.size := Nat.lt_of_lt_of_le hk hg.size
          rw [hg5.block k (Nat.lt_of_lt_of_le hk' hb4.size) (fun e => by
            rcases hn2 k e.symm with h6 | h6
            · exact hne h6.symm
            · omega), hb4.block k hk', hg.block k hk hne]
        · intro g hg'
          rcases hn5 g hg' with h6 | h6
          · exact hn2 g h6
          · have := hg.size; have := hb4.size; exact .inr (by omega)
      · have h5 : v ∈ h := by simpa using h5
        refine ⟨s, v + 1, by rw [w64_id (by omega) (by omega)], ⟨by omega, by omega, ?_, ?_, hn2⟩, by omega⟩
        · rw [e1, hstep, if_pos h5, List.append_nil]; exact ⟨rs', hs.grow hb1⟩
        · refine ⟨hb1.os.trans hg.os, hb1.tape.trans hg.tape, hb1.output.trans hg.output, Nat.le_trans hg.size hb1.size, fun k hk hne => ?_⟩
          rw [hb1.block k (Nat.lt_of_lt_of_le hk hg.size), hg.block k hk hne]
    · rw [spec_l2Fill.A4_0_s]
      rw [show (v - 1).toNat = n by omega] at hs
      exact ⟨s, rfl, hs, hg, hn2⟩

def PermsV (n : Int) : List (List Int) := if 0 ≤ n ∧ n ≤ 6 then permsV n.toNat else []
theorem c_PermsOf {w : World} (n : Int) :
    Calls PP F.spec_PermsOf #[vI n] w fun e w' => ∃ s : Sl, e = .returned s.v ∧ OwnSS w' w.heap.size s (PermsV n) ∧ Below w.heap.size w w' := by
  refine spec_PermsOf.calls n ?_
  rw [spec_PermsOf.E_s]
  refine Pure.pcall1 (s := .bool) (c_l1In n 0 6) ?_
  refine bif_intro (fun h => ?_) (fun h => ?_)
  · have h : ¬ (0 ≤ n ∧ n ≤ 6) := by simp at h; omega
    refine lit0 oneSint (B := w.heap.size) (Nat.le_refl _) ?_
    intro s w1 hs hg _
    exact ⟨s, rfl, by rw [PermsV, if_neg h]; exact OwnSS.nil hs, below_of_grow hg⟩
  · have h : 0 ≤ n ∧ n ≤ 6 := by simpa using h
    obtain ⟨m, rfl⟩ : ∃ m : Nat, n = m := ⟨n.toNat, by omega⟩
    refine lit0 oneInt (B := w.heap.size) (Nat.le_refl _) ?_
    intro s w1 hs hg1 _
    have hb1 := below_of_grow hg1
    refine lit0 oneSint (B := w.heap.size) hb1.size ?_
    intro t w2 ht hg2 _
    have hb2 := hb1.grown hg2 hb1.size (by simp)
    have h8 : 8 ^ m ≤ 8 ^ 8 := Nat.pow_le_pow_right (by omega) (by omega)
    refine (c_l2Fill m (by omega) m w2 s t [] [] [] hb2 (OwnRows.nil ht) (hs.kept hg2 (by simp)) (fun t ht => by simp at ht) (by simp) (by simp only [List.length_nil]; omega)).mono ?_
    rintro e w3 ⟨u, rfl, hu, hg3, _⟩
    refine ⟨u, rfl, u, rfl, ?_, hb2.grown hg3 hb2.size (fun g hg => (ht.lt g hg).1)⟩
    rw [PermsV, if_pos h, Int.toNat_natCast, ← fillN_permsV]
    exact hu
end Go.Proofs.Ytlcemelmnkipmaa

/- Classes: what the functions answer, as lists. -/
namespace Go.Proofs.Ytlcemelmnkipmaa
open Go
set_option maxRecDepth 100000

def classT (LL : List (List Int)) (l : List (List Int)) : List (List Int) := l.filter (avoidsV LL)
def classV (LL : List (List Int)) (n : Nat) : List (List Int) := classT LL (permsV n)
theorem classT_snoc (LL l : List (List Int)) (p : List Int) : classT LL (l ++ [p]) = if avoidsV LL p = true then classT LL l ++ [p] else classT LL l := by
  unfold classT
  rw [List.filter_append]
  split
  · rename_i h; simp [h]
  · rename_i h; simp [h]
theorem perms_len6 {n : Nat} (hn : n ≤ 6) : (permsV n).length ≤ 46656 := Nat.le_trans (permsV_length n) (Nat.le_trans (Nat.pow_le_pow_left hn n) (Nat.pow_le_pow_right (by omega) hn))
theorem classV_len {LL : List (List Int)} {n : Nat} (hn : n ≤ 6) : (classV LL n).length ≤ 46656 := Nat.le_trans (List.length_filter_le _ _) (perms_len6 hn)
theorem classV_mem {LL : List (List Int)} {n : Nat} {p : List Int} (h : p ∈ classV LL n) : p ∈ permsV n ∧ avoidsV LL p = true := by
  rw [classV, classT, List.mem_filter] at h; exact h
def InCl (LL : List (List Int)) (P : List Int) : Prop := BasisOk LL ∧ IsP P ∧ avoidsV LL P = true
end Go.Proofs.Ytlcemelmnkipmaa

/- The permutations of a class: both texts. -/
namespace Go.Proofs.Ytlcemelmnkipmaa
open Go Go.RowKit
set_option maxRecDepth 100000

theorem BasisOk.len {LL : List (List Int)} (h : BasisOk LL) : ∀ q ∈ LL, q.length ≤ 8 := fun q hq => (h.isP hq).1
theorem c_isSix' (n : Int) : Pure F.impl_isSix #[vI n] (.bool (decide (0 ≤ n) && decide (n ≤ 6))) := by
  intro w
  refine impl_isSix.calls n ?_
  rw [impl_isSix.E_s]
  refine bif_dec (fun h => ?_) (fun h => ?_)
  · exact ⟨by simp; omega, rfl⟩
  · exact ⟨by simp; omega, rfl⟩
theorem c_class {w : World} {l : Sl} {LL : List (List Int)} (hl : RowSS w l LL) (hB : BasisOk LL) (n : Nat) (hn : n ≤ 6) :
    Calls PP F.impl_class #[l.v, vI n] w fun e w' => ∃ s : Sl, e = .returned s.v ∧ OwnSS w' w.heap.size s (classV LL n) ∧ Below w.heap.size w w' := by
  refine impl_class.calls l n ?_
  rw [impl_class.E_s]
  refine lit0 oneSint (B := w.heap.size) (Nat.le_refl _) ?_
  intro o0 w2 ho0 hg2 _
  have hb2 := below_of_grow hg2
  refine (c_perms n (by omega)).mono ?_
  rintro e w3 ⟨t, rfl, ht, hb23⟩
  refine ⟨t, rfl, ?_⟩
  have hb3 := hb2.trans (hb23.mono hb2.size)
  have htn := ht.row.n
  have hcnt := perms_len6 hn
  have hl8 := hB.1
  obtain ⟨ts, ht⟩ := ht
  refine impl_class.L3_rule _ _ _ _ _ _ _ (I := fun s i w' => 0 ≤ i ∧ i ≤ (permsV n).length ∧ Below w.heap.size w w' ∧ OwnRows w' w2.heap.size t ts (permsV n) ∧ Apt s t ∧
      ∃ rs, OwnRows w' w.heap.size s rs (classT LL ((permsV n).take i.toNat)) ∧ (∀ r ∈ rs, ∃ j, j < i.toNat ∧ ts[j]? = some r)) (μ := fun _ i _ => ((permsV n).length - i).toNat)
    ⟨by omega, by omega, hb3, ht, Apt.of_lt (fun g hg => (ho0.lt g hg).2) (fun g hg => (ht.out.lt g hg).1), [], (OwnRows.nil ho0).grow hb23, fun r hr => by simp at hr⟩ ?_
  rintro s i w' ⟨hi0, hi, hb, htw, hst, rs, hrs, hsub⟩
  rw [impl_class.B3_s, htn]
  refine bif_dec (fun h3 => ?_) (fun h3 => ?_)
  · have hlt : i.toNat < (permsV n).length := by omega
    refine OwnRows.load htw hi0 (by omega) fun r hr hor => ?_
    rw [getD_SS hlt] at hor
    have hpl := permsV_len (List.getElem_mem hlt)
    have hsucc : (i + 1).toNat = i.toNat + 1 := by omega
    refine (c_avoids (hl.grow hb) hor.row (by omega) (by omega) (fun q hq => by have := hB.len q hq; omega)).mono ?_
    rintro e w5 ⟨rfl, hb45⟩
    refine ⟨_, rfl, ?_⟩
    have hb5 := hb.trans (hb45.mono hb.size)
    have hcn : (classT LL ((permsV n).take i.toNat)).length ≤ 46656 := Nat.le_trans (List.length_filter_le _ _) (by rw [List.length_take]; omega)
    refine bif_intro (fun h7 => ?_) (fun h7 => ?_)
    · refine append_sl (hrs.grow hb45) hb5.size ((hor.grow hb45).mono hb2.size) (fun x hx g e1 e2 => ?_) (by omega) ?_
      · obtain ⟨j, hj, hj2⟩ := hsub x hx
        exact htw.apt j i.toNat x r (by omega) hj2 hr g e1 e2
      intro s' w6 hs6 hg6 hn6
      refine ⟨s', i + 1, by rw [w64_succ hi0 (by omega)], ⟨by omega, by omega, hb5.grown hg6 hb5.size (fun g hg => ((hrs.grow hb45).out.lt g hg).1), ?_, hst.next hn6 (fun g hg => ((htw.grow hb45).out.lt g hg).2), rs ++ [r], ?_, fun x hx => ?_⟩, by omega⟩
      · refine (htw.grow hb45).keeps (keeps_grown hg6) (fun g e1 e2 => hst g e2 e1) (fun x hx g e1 e2 => ?_)
        obtain ⟨M, _, hom⟩ := (htw.grow hb45).own hx
        exact ((hrs.grow hb45).out.apt hom (by decide)) g e2 e1
      · rw [hsucc, List.take_succ_eq_append_getElem hlt, classT_snoc, if_pos h7]
        exact hs6
      · rcases List.mem_append.1 hx with h8 | h8
        · obtain ⟨j, hj, hj2⟩ := hsub x h8
          exact ⟨j, by omega, hj2⟩
        · have : x = r := by simpa using h8
          subst this; exact ⟨i.toNat, by omega, hr⟩
    · refine ⟨s, i + 1, by rw [w64_succ hi0 (by omega)], ⟨by omega, by omega, hb5, htw.grow hb45, hst, rs, ?_, fun x hx => ?_⟩, by omega⟩
      · rw [hsucc, List.take_succ_eq_append_getElem hlt, classT_snoc, if_neg (by simp [h7])]
        exact hrs.grow hb45
      · obtain ⟨j, hj, hj2⟩ := hsub x hx
        exact ⟨j, by omega, hj2⟩
  · rw [impl_class.A3_0_s]
    rw [show i.toNat = (permsV n).length by omega, List.take_length] at hrs
    exact ⟨s, rfl, ⟨rs, hrs⟩, hb⟩
open Classical in
noncomputable def ClassOfV (LL : List (List Int)) (n : Int) : List (List Int) := if BasisOk LL ∧ 0 ≤ n ∧ n ≤ 6 then classV LL n.toNat else []
open Classical in
theorem c_ClassOf {w : World} {l : Sl} {LL : List (List Int)} (hl : RowSS w l LL) (hL : LL.length < 2^38) (ht0 : tot LL < 2^37) (n : Int) :
    Calls PP F.spec_ClassOf #[l.v, vI n] w fun e w' => ∃ s : Sl, e = .returned s.v ∧ OwnSS w' w.heap.size s (ClassOfV LL n) ∧ Below w.heap.size w w' := by
  refine spec_ClassOf.calls l n ?_
  rw [spec_ClassOf.E_s]
  refine lit0 oneSint (B := w.heap.size) (Nat.le_refl _) ?_
  intro o0 w1 ho0 hg1 _
  have hb1 := below_of_grow hg1
  refine (c_specIsBasis (hl.grow hb1) hL ht0).mono ?_
  rintro e w2 ⟨rfl, hb12⟩
  refine ⟨_, rfl, ?_⟩
  have hb2 := hb1.trans (hb12.mono hb1.size)
  have ho2 := (OwnRows.nil ho0).grow hb12
  refine bif_intro (fun h => ?_) (fun h => ?_)
  · have h : ¬ BasisOk LL := by simpa [IsBasisV] using h
    exact ⟨o0, rfl, by rw [ClassOfV, if_neg (fun hh => h hh.1)]; exact ⟨_, ho2⟩, hb2⟩
  have hB : BasisOk LL := by simpa [IsBasisV] using h
  refine Pure.pcall1 (s := .bool) (c_l1In n 0 6) ?_
  refine bif_intro (fun h => ?_) (fun h => ?_)
  · have h : ¬ (0 ≤ n ∧ n ≤ 6) := by simp at h; omega
    exact ⟨o0, rfl, by rw [ClassOfV, if_neg (fun hh => h hh.2)]; exact ⟨_, ho2⟩, hb2⟩
  have hn6 : 0 ≤ n ∧ n ≤ 6 := by simpa using h
  have hV : ClassOfV LL n = classV LL n.toNat := by rw [ClassOfV, if_pos ⟨hB, hn6⟩]
  obtain ⟨n, rfl⟩ : ∃ m : Nat, n = m := ⟨n.toNat, by omega⟩
  rw [Int.toNat_natCast] at hV
  refine (c_PermsOf n).mono ?_
  rintro e w3 ⟨t, rfl, ht, hb23⟩
  refine ⟨t, rfl, ?_⟩
  have hp : PermsV (n : Int) = permsV n := by rw [PermsV, if_pos (by omega), Int.toNat_natCast]
  rw [hp] at ht
  have hb3 := hb2.trans (hb23.mono hb2.size)
  have htn := ht.row.n
  have hcnt := perms_len6 (n := n) (by omega)
  have hl8 := hB.1
  obtain ⟨ts, ht⟩ := ht
  refine spec_ClassOf.L6_rule _ _ _ _ _ _ (I := fun s i w' => 0 ≤ i ∧ i ≤ (permsV n).length ∧ Below w.heap.size w w' ∧ OwnRows w' w2.heap.size t ts (permsV n) ∧ Apt s t ∧
      ∃ rs, OwnRows w' w.heap.size s rs (classT LL ((permsV n).take i.toNat)) ∧ (∀ r ∈ rs, ∃ j, j < i.toNat ∧ ts[j]? = some r)) (μ := fun _ i _ => ((permsV n).length - i).toNat)
    ⟨by omega, by omega, hb3, ht, Apt.of_lt (fun g hg => (ho2.out.lt g hg).2) (fun g hg => (ht.out.lt g hg).1), [], ho2.grow hb23, fun r hr => by simp at hr⟩ ?_
  rintro s i w' ⟨hi0, hi, hb, htw, hst, rs, hrs, hsub⟩
  rw [spec_ClassOf.B6_s, htn]
  refine bif_dec (fun h3 => ?_) (fun h3 => ?_)
  · have hlt : i.toNat < (permsV n).length := by omega
    refine OwnRows.load htw hi0 (by omega) fun r hr hor => ?_
    rw [getD_SS hlt] at hor
    have hpl := permsV_len (List.getElem_mem hlt)
    have hsucc : (i + 1).toNat = i.toNat + 1 := by omega
    refine (c_l12Avoids (hl.grow hb) hor.row (by omega) (by omega) hB.len).mono ?_
    rintro e w5 ⟨rfl, hb45⟩
    refine ⟨_, rfl, ?_⟩
    have hb5 := hb.trans (hb45.mono hb.size)
    have hcn : (classT LL ((permsV n).take i.toNat)).length ≤ 46656 := Nat.le_trans (List.length_filter_le _ _) (by rw [List.length_take]; omega)
    refine bif_intro (fun h7 => ?_) (fun h7 => ?_)
    · refine OwnRows.load (htw.grow hb45) hi0 (by omega) fun r2 hr2 hor2 => ?_
      rw [hr] at hr2
      obtain rfl : r = r2 := by simpa using hr2
      refine append_sl (hrs.grow hb45) hb5.size ((hor.grow hb45).mono hb2.size) (fun x hx g e1 e2 => ?_) (by omega) ?_
      · obtain ⟨j, hj, hj2⟩ := hsub x hx
        exact htw.apt j i.toNat x r (by omega) hj2 hr g e1 e2
      intro s' w6 hs6 hg6 hn6
      refine ⟨s', i + 1, by rw [w64_succ hi0 (by omega)], ⟨by omega, by omega, hb5.grown hg6 hb5.size (fun g hg => ((hrs.grow hb45).out.lt g hg).1), ?_, hst.next hn6 (fun g hg => ((htw.grow hb45).out.lt g hg).2), rs ++ [r], ?_, fun x hx => ?_⟩, by omega⟩
      · refine (htw.grow hb45).keeps (keeps_grown hg6) (fun g e1 e2 => hst g e2 e1) (fun x hx g e1 e2 => ?_)
        obtain ⟨M, _, hom⟩ := (htw.grow hb45).own hx
        exact ((hrs.grow hb45).out.apt hom (by decide)) g e2 e1
      · rw [hsucc, List.take_succ_eq_append_getElem hlt, classT_snoc, if_pos h7]
        exact hs6
      · rcases List.mem_append.1 hx with h8 | h8
        · obtain ⟨j, hj, hj2⟩ := hsub x h8
          exact ⟨j, by omega, hj2⟩
        · have : x = r := by simpa using h8
          subst this; exact ⟨i.toNat, by omega, hr⟩
    · refine ⟨s, i + 1, by rw [w64_succ hi0 (by omega)], ⟨by omega, by omega, hb5, htw.grow hb45, hst, rs, ?_, fun x hx => ?_⟩, by omega⟩
      · rw [hsucc, List.take_succ_eq_append_getElem hlt, classT_snoc, if_neg (by simp [h7])]
        exact hrs.grow hb45
      · obtain ⟨j, hj, hj2⟩ := hsub x hx
        exact ⟨j, by omega, hj2⟩
  · rw [spec_ClassOf.A6_0_s]
    rw [show i.toNat = (permsV n).length by omega, List.take_length] at hrs
    exact ⟨s, rfl, by rw [hV]; exact ⟨rs, hrs⟩, hb⟩
end Go.Proofs.Ytlcemelmnkipmaa

/- InClass: the model text. -/
namespace Go.Proofs.Ytlcemelmnkipmaa
open Go Go.RowKit
set_option maxRecDepth 100000

/-! ### InClass -/
open Classical in
noncomputable def InClassV (LL : List (List Int)) (P : List Int) : Bool := decide (InCl LL P)
end Go.Proofs.Ytlcemelmnkipmaa

/- InClass: the program text. -/
namespace Go.Proofs.Ytlcemelmnkipmaa
open Go Go.RowKit
set_option maxRecDepth 100000

end Go.Proofs.Ytlcemelmnkipmaa

/- What each function does, step by step, written by a program (Gen.lean); each equation is checked by the kernel. -/
namespace Go.Proofs.Ytlcemelmnkipmaa
open Go
set_option linter.unusedVariables false
set_option maxRecDepth 100000
end Go.Proofs.Ytlcemelmnkipmaa

/- What each function does, step by step, written by a program (Gen.lean); each equation is checked by the kernel. -/
namespace Go.Proofs.Ytlcemelmnkipmaa
open Go
set_option linter.unusedVariables false
set_option maxRecDepth 100000
end Go.Proofs.Ytlcemelmnkipmaa

/- The library's Insert of one number into a row of ints that the call owns. -/
namespace Go.Proofs.Ytlcemelmnkipmaa
open Go Go.RowKit
set_option maxRecDepth 100000

theorem splice_take {α : Type} (C news : List α) {lo k n : Nat} (hk : news.length = k) (h : lo + k ≤ n) (hn : n ≤ C.length) : (C.take lo ++ news ++ C.drop (lo + k)).take n = (C.take n).take lo ++ news ++ (C.take n).drop (lo + k) := by
  have hA : (C.take lo ++ news).length = lo + k := by simp; omega
  rw [List.take_append, hA, List.take_of_length_le (by omega), List.take_take, Nat.min_eq_left (by omega), List.drop_take]
/-- 'copy(s[lo:], r)'. -/
theorem copy_run {tt : TypeId} {w : World} {B : Nat} {s r : Sl} {vs news : List Value} (h : Own w B T_int s vs) {lo k : Nat} (hlo : lo < vs.length) (hr : Row w r news) (hk : k = min news.length (vs.length - lo)) (h1 : ∀ v ∈ news.take k, One v) (hk0 : 0 < k) {K : Int → World → Prop}
    (hK : ∀ w', Own w' B T_int s (vs.take lo ++ news.take k ++ vs.drop (lo + k)) → w.grownBy w' s.blk → w'.heap.size = w.heap.size → K k w') :
    sem1 (.int .i64) PP (Builtin.copy_ #[T_Sint, T_Sint] tt #[(s.cut 1 lo s.n).v, r.v]) w K := by
  have hn := h.n
  have hnc := h.nc
  rcases h.at_ with hc | ⟨g, cur, ha, hb, hg, hs, ht⟩
  · omega
  obtain ⟨i, hu, hi, hz, hsz, hbb, hzc⟩ := oneInt
  have hblk : s.blk = some g := by simp [Sl.blk, show s.c ≠ 0 by omega, ha]
  have ecut : s.cut 1 lo s.n = ⟨some ⟨g, lo, none⟩, s.n - lo, s.c - lo⟩ := by
    simp only [Sl.cut]
    rw [if_neg (by omega), ha]
    simp only [Option.map_some, Nat.mul_one, add_lit, Nat.zero_add]
  obtain ⟨ra, hra, _⟩ := hr.cell 0 (news[0]'(by omega)) (List.getElem?_eq_getElem (by omega))
  have hrn := hr.n
  have hlen : (news.take k).length = k := by rw [List.length_take]; omega
  have hrun := run_copy_row (P := PP) w T_Sint T_Sint tt T_int g lo (s.n - lo) (s.c - lo) ra r.n r.c cur T_int (news.take k) hu (by rw [hi]; simp [hsz]) hg
    (by rw [hlen, hrn, hn, hk]) (fun j v hv => by
      rw [List.getElem?_take] at hv
      split at hv
      · obtain ⟨a', ha', hc'⟩ := hr.cell j v hv
        rw [hra] at ha'; cases ha'; exact hc'
      · cases hv) (by rw [hlen]; omega) (fun v hv => (h1 v hv).2)
  rw [hlen] at hrun
  rw [ecut]
  have e2 : r.v = .slice (some ra) r.n r.c := by simp only [Sl.v, hra]
  refine ⟨k, _, by rw [e2]; exact hrun, hK _ ⟨?_, hnc, h.cm, .inr ⟨g, _, ha, hb, setRow_heap w g cur _ T_int (0, 0) hg, ?_, ?_⟩⟩ ?_ (by simp [World.setRow])⟩
  · simp only [List.length_append, hlen, List.length_take, List.length_drop]; omega
  · simp only [List.size_toArray, List.length_append, hlen, List.length_take, List.length_drop, Array.length_toList]; omega
  · rw [← ht]
    exact splice_take _ _ hlen (by omega) (by simp <;> omega)
  · rw [hblk]
    exact ⟨rfl, rfl, rfl, by simp [World.setRow], fun x hx hne => setRow_other w g x _ (fun e => hne (by rw [e]))⟩
theorem cutK_lo {w B e s vs} (h : Own w B e s vs) {lo : Nat} (hlo : lo ≤ vs.length) {K : Sl → Prop} (hK : K (s.cut 1 lo s.n)) : cutK 1 s (some (lo : Int)) none K := by
  have hn := h.n
  have hnc := h.nc
  refine ⟨by simp, by simp; omega, by simp; omega, ?_⟩
  simpa using hK
/-- A row behind an Own's cut. -/
theorem cut_row {w B e s vs} (h : Own w B e s vs) {lo : Nat} (hlo : lo ≤ vs.length) : Row w (s.cut 1 lo s.n) (vs.drop lo) := by
  have hn := h.n
  have hnc := h.nc
  refine ⟨by simp [Sl.cut]; omega, by simp only [Sl.cut]; omega, fun i v hv => ?_⟩
  rw [List.getElem?_drop] at hv
  obtain ⟨a, ha, hc⟩ := h.row.cell _ v hv
  have hlt : lo + i < vs.length := (List.getElem?_eq_some_iff.1 hv).1
  refine ⟨a.add lo, ?_, by rw [add_add]; exact hc⟩
  simp only [Sl.cut, Nat.mul_one]
  rw [if_neg (by omega), ha]; rfl
theorem insW_eq {α : Type} (L : List α) (x : α) (i : Nat) (hi : i ≤ L.length) : (L.take i ++ x :: L.drop i).length = L.length + 1 := by simp; omega
theorem size_int : ∀ w, (Go.sizeOf T_int).run PP w = .ok 1 w := fun w => by
  obtain ⟨i, hu, hi, hz, hsz, hbb, hzc⟩ := oneInt
  simp [sizeOf, typeInfo, hi, hsz]
end Go.Proofs.Ytlcemelmnkipmaa

/- One more number at a site: both texts, and ChildAt's law. -/
namespace Go.Proofs.Ytlcemelmnkipmaa
open Go Go.RowKit
set_option maxRecDepth 100000

def childW (L : List Int) (i : Nat) : List Int := L.take i ++ ((L.length : Int) + 1) :: L.drop i
theorem childW_length {L : List Int} {i : Nat} (hi : i ≤ L.length) : (childW L i).length = L.length + 1 := by simp [childW]; omega
def ChildOk (L : List Int) (i : Int) : Prop := IsP L ∧ L.length < 8 ∧ 0 ≤ i ∧ i ≤ L.length
open Classical in
noncomputable def ChildAtV (L : List Int) (i : Int) : List Int := if ChildOk L i then childW L i.toNat else []
open Classical in
noncomputable def ChildAtV1 (L : List Int) (i : Int) : Bool := decide (ChildOk L i)
theorem ChildAtV_len (L : List Int) (i : Int) : (ChildAtV L i).length < 2^38 := by
  unfold ChildAtV
  split
  · rename_i h
    obtain ⟨h1, h2, h3, h4⟩ := h
    rw [childW_length (by omega)]; omega
  · simp
end Go.Proofs.Ytlcemelmnkipmaa

/- Active sites, children, labels: both texts. -/
namespace Go.Proofs.Ytlcemelmnkipmaa
open Go Go.RowKit
set_option maxRecDepth 100000

def sitesT (LL : List (List Int)) (P : List Int) : Nat → List Int
  | 0 => []
  | k + 1 => if avoidsV LL (childW P k) = true then sitesT LL P k ++ [(k : Int)] else sitesT LL P k
def sitesV (LL : List (List Int)) (P : List Int) : List Int := sitesT LL P (P.length + 1)
theorem sitesT_len (LL : List (List Int)) (P : List Int) : ∀ k, (sitesT LL P k).length ≤ k
  | 0 => by simp [sitesT]
  | k + 1 => by
    have := sitesT_len LL P k
    rw [sitesT]
    split
    · simp; omega
    · omega
theorem sitesT_mem {LL : List (List Int)} {P : List Int} : ∀ {k : Nat} {x : Int}, x ∈ sitesT LL P k → 0 ≤ x ∧ x < k ∧ avoidsV LL (childW P x.toNat) = true
  | 0, x, h => by simp [sitesT] at h
  | k + 1, x, h => by
    rw [sitesT] at h
    split at h
    · rename_i h2
      rcases List.mem_append.1 h with h | h
      · obtain ⟨a, b, c⟩ := sitesT_mem h; exact ⟨a, by omega, c⟩
      · simp at h; subst h; exact ⟨by omega, by omega, by simpa using h2⟩
    · obtain ⟨a, b, c⟩ := sitesT_mem h; exact ⟨a, by omega, c⟩
def childrenV (LL : List (List Int)) (P : List Int) : List (List Int) := (sitesV LL P).map fun i => childW P i.toNat
theorem childW_isP {P : List Int} (h : IsP P) (h7 : P.length ≤ 7) {i : Nat} (hi : i ≤ P.length) : IsP (childW P i) := by
  refine isP_of (n := P.length + 1) ?_ (by omega)
  rw [idn_succ, childW]
  have h1 : (P.take i ++ ((P.length : Int) + 1) :: P.drop i).Perm (((P.length : Int) + 1) :: (P.take i ++ P.drop i)) := List.perm_middle
  rw [List.take_append_drop] at h1
  exact h1.trans ((List.Perm.cons _ h.perm).trans (List.perm_append_singleton _ _).symm)

/-! ### children -/
open Classical in
noncomputable def ActiveSitesV (LL : List (List Int)) (P : List Int) : List Int := if InCl LL P ∧ P.length < 8 then sitesV LL P else []
theorem ActiveSitesV_len (LL : List (List Int)) (P : List Int) : (ActiveSitesV LL P).length < 2^38 := by
  unfold ActiveSitesV
  split
  · rename_i h; have := sitesT_len LL P (P.length + 1); rw [sitesV]; omega
  · simp
/-! ### LabelOf -/
open Classical in
noncomputable def LabelOfV (LL : List (List Int)) (P : List Int) : Int := if InCl LL P ∧ P.length < 8 then ((sitesV LL P).length : Int) else -1
/-! ### ChildrenOf -/
open Classical in
noncomputable def ChildrenOfV (LL : List (List Int)) (P : List Int) : List (List Int) := if InCl LL P ∧ P.length < 8 then childrenV LL P else []
theorem childrenV_len (LL : List (List Int)) (P : List Int) : (childrenV LL P).length ≤ P.length + 1 := by
  rw [childrenV, List.length_map]; exact sitesT_len LL P (P.length + 1)
theorem childrenV_mem {LL : List (List Int)} {P q : List Int} (h : q ∈ childrenV LL P) : ∃ i : Nat, i ≤ P.length ∧ q = childW P i ∧ avoidsV LL q = true := by
  rw [childrenV, List.mem_map] at h
  obtain ⟨x, hx, rfl⟩ := h
  have := sitesT_mem hx
  exact ⟨x.toNat, by omega, rfl, this.2.2⟩
theorem tot_le_mul' {l : List (List Int)} {n : Nat} (h : ∀ p ∈ l, p.length ≤ n) : tot l ≤ l.length * n := by
  induction l with
  | nil => simp [tot]
  | cons x r ih =>
    have h1 := h x (by simp)
    have h2 := ih (fun p hp => h p (by simp [hp]))
    rw [tot_cons, List.length_cons, Nat.succ_mul]; omega
theorem ChildrenOfV_len (LL : List (List Int)) (P : List Int) : (ChildrenOfV LL P).length < 2^38 ∧ tot (ChildrenOfV LL P) < 2^38 := by
  unfold ChildrenOfV
  split
  · rename_i h
    have h1 := childrenV_len LL P
    have h2 : tot (childrenV LL P) ≤ (childrenV LL P).length * 9 := tot_le_mul' fun q hq => by
      obtain ⟨i, hi, rfl, _⟩ := childrenV_mem hq
      rw [childW_length hi]; omega
    omega
  · simp [tot]
end Go.Proofs.Ytlcemelmnkipmaa

/- Small things that the counts of classes share. -/
namespace Go.Proofs.Ytlcemelmnkipmaa
open Go Go.RowKit
set_option maxRecDepth 100000

theorem ne_SS_S : T_SSint ≠ T_Sint := by decide
theorem ne_SS_int : T_SSint ≠ T_int := by decide
theorem flat_snoc' {α β : Type} (l : List α) (x : α) (f : α → List β) : (l ++ [x]).flatMap f = l.flatMap f ++ f x := by simp
theorem avoids_nil {LL : List (List Int)} (h : BasisOk LL) : avoidsV LL [] = true := by
  have : (LL.any fun q => hasP [] q) = false := by
    rw [List.any_eq_false]
    intro q hq hh
    obtain ⟨i, hi, rfl⟩ := List.getElem_of_mem hq
    have hne := (h.2 i hi).ne
    rw [getD_SS hi] at hne
    have := hasB_room _ _ (Places.nil []) hh
    have h0 : 0 < LL[i].length := List.length_pos_iff.2 hne
    have h5 : lastD [] = 0 := rfl
    rw [h5] at this
    simp only [List.length_nil] at this
    omega
  simp [avoidsV, this]
theorem OwnSS.one_nil {w w2 : World} {B : Nat} {s0 t0 : Sl} (h0 : OwnI w B s0 []) (ht0 : Own w2 B T_Sint t0 [s0.v]) (hg : w.grownBy w2 Option.none) : OwnSS w2 B t0 [[]] := by
  refine ⟨[s0], ht0, rfl, fun i r L e1 e2 => ?_, fun i j r t hij e1 e2 => ?_⟩
  · cases i with
    | zero => simp at e1 e2; subst e1 e2; exact h0.kept hg (fun _ _ => by simp)
    | succ i => simp at e1
  · cases i with
    | zero => cases j with
      | zero => exact absurd rfl hij
      | succ j => simp at e2
    | succ i => simp at e1
def CntOk (LL : List (List Int)) (n : Int) : Prop := BasisOk LL ∧ 0 ≤ n ∧ n ≤ 6
theorem c_six {n : Int} {K : Bool → Prop} (hk : K (decide (0 ≤ n) && decide (n ≤ 6))) : pcall1 .bool PP F.impl_isSix #[vI n] K := Pure.pcall1 (s := .bool) (c_isSix' n) hk
end Go.Proofs.Ytlcemelmnkipmaa

/- What each function does, step by step, written by a program (Gen.lean); each equation is checked by the kernel. -/
namespace Go.Proofs.Ytlcemelmnkipmaa
open Go
set_option linter.unusedVariables false
set_option maxRecDepth 100000
end Go.Proofs.Ytlcemelmnkipmaa

/- What each function does, step by step, written by a program (Gen.lean); each equation is checked by the kernel. -/
namespace Go.Proofs.Ytlcemelmnkipmaa
open Go
set_option linter.unusedVariables false
set_option maxRecDepth 100000
end Go.Proofs.Ytlcemelmnkipmaa

/- The laws' helpers over rows of rows: comparison, marks. -/
namespace Go.Proofs.Ytlcemelmnkipmaa
open Go Go.RowKit
set_option maxRecDepth 100000

def marksSS (k : Int) : List (List Int) → List (List Int)
  | [] => []
  | L :: r => marks k L.length :: marksSS (k + L.length) r
theorem marksSS_length : ∀ (LL : List (List Int)) (k : Int), (marksSS k LL).length = LL.length
  | [], _ => rfl
  | L :: r, k => by simp [marksSS, marksSS_length r]
theorem marksSS_append : ∀ (A B : List (List Int)) (k : Int), marksSS k (A ++ B) = marksSS k A ++ marksSS (k + tot A) B
  | [], B, k => by simp [marksSS, tot_nil]
  | L :: r, B, k => by
    simp only [List.cons_append, marksSS, marksSS_append r B, tot_cons, List.cons.injEq, true_and]
    congr 2; omega
theorem marksSS_step {LL : List (List Int)} (k : Int) {i : Nat} (h : i < LL.length) :
    (marksSS k (LL.take i) ++ LL.drop i).set i (marks (k + tot (LL.take i)) (LL.getD i []).length) = marksSS k (LL.take (i + 1)) ++ LL.drop (i + 1) := by
  have h1 : LL.drop i = LL[i] :: LL.drop (i + 1) := by rw [List.drop_eq_getElem_cons h]
  have h2 : (marksSS k (LL.take i)).length = i := by rw [marksSS_length]; simp; omega
  rw [h1, List.set_append_right _ _ (by omega), h2, Nat.sub_self, List.set_cons_zero, List.take_succ_eq_append_getElem h, marksSS_append, List.append_assoc, getD_SS h]
  rfl
theorem marksSS_at {LL : List (List Int)} (k : Int) {i : Nat} (h : i < LL.length) : (marksSS k (LL.take i) ++ LL.drop i).getD i [] = LL.getD i [] := by
  have h2 : (marksSS k (LL.take i)).length = i := by rw [marksSS_length]; simp; omega
  rw [List.getD_eq_getElem?_getD, List.getElem?_append_right (by omega), h2, Nat.sub_self, List.getElem?_drop, List.getD_eq_getElem?_getD]
  simp
theorem marksSS_getD : ∀ {LL : List (List Int)} (k : Int) {i : Nat}, i < LL.length → (marksSS k LL).getD i [] = marks (k + tot (LL.take i)) (LL.getD i []).length
  | [], k, i, h => by simp at h
  | L :: r, k, 0, _ => by simp [marksSS, tot_nil]
  | L :: r, k, i + 1, h => by
    have := marksSS_getD (LL := r) (k + L.length) (i := i) (by simpa using h)
    simp only [List.getD_eq_getElem?_getD, marksSS, List.getElem?_cons_succ, List.take_succ_cons, tot_cons] at this ⊢
    rw [this]; congr 1; omega

end Go.Proofs.Ytlcemelmnkipmaa

/- The laws' helpers over rows of rows: sizes and copies. -/
namespace Go.Proofs.Ytlcemelmnkipmaa
open Go Go.RowKit
set_option maxRecDepth 100000

def szI (n : Nat) (left : Int) : Int := if left - n < 0 then -1 else left - n
def szW (LL : List (List Int)) (left : Int) : Int := if (LL.length : Int) + tot LL ≤ left then left - ((LL.length : Int) + tot LL) else -1
theorem szW_ok {LL : List (List Int)} {left : Int} (h0 : 0 ≤ left) (h : ¬ szW LL left < 0) : (LL.length : Int) + tot LL ≤ left ∧ szW LL left = left - ((LL.length : Int) + tot LL) := by
  unfold szW at h ⊢
  split at h
  · rename_i h1; exact ⟨h1, by rw [if_pos h1]⟩
  · omega
theorem OwnRows.replicate {w B s n} (h : Own w B T_Sint s (List.replicate n Sl.nil.v)) : OwnRows w B s (List.replicate n Sl.nil) (List.replicate n []) := by
  refine ⟨by simpa using h, by simp, fun i r L e1 e2 => ?_, fun i j r t _ e1 e2 g hg => ?_⟩
  · rw [List.getElem?_replicate] at e1 e2
    split at e1
    · split at e2
      · simp only [Option.some.injEq] at e1 e2; subst e1 e2; exact Own.nil _ _ _
      · omega
    · cases e1
  · rw [List.getElem?_replicate] at e1
    split at e1
    · simp only [Option.some.injEq] at e1; subst e1; simp [Sl.blk, Sl.nil] at hg
    · cases e1
end Go.Proofs.Ytlcemelmnkipmaa

/- LeafCount, LowCounts, LevelSizes: both texts, and the laws. -/
namespace Go.Proofs.Ytlcemelmnkipmaa
open Go Go.RowKit
set_option maxRecDepth 100000

open Classical in
noncomputable def LeafCountV (LL : List (List Int)) (n : Int) : Int := if CntOk LL n then ((classV LL n.toNat).countP (fun p => (sitesV LL p).isEmpty) : Int) else -1
theorem countP_snoc {l : List (List Int)} {i : Nat} (hi : i < l.length) (φ : List Int → Bool) : (l.take (i + 1)).countP φ = (l.take i).countP φ + if φ l[i] = true then 1 else 0 := by
  rw [List.take_succ_eq_append_getElem hi, List.countP_append, List.countP_singleton]
/-! ### LowCounts -/
def lcStep (acc : List Int) (p : List Int) : List Int := acc.set (lowsT p p.length).length (acc.getD (lowsT p p.length).length 0 + 1)
def lcW (n : Nat) (l : List (List Int)) : List Int := l.foldl lcStep (List.replicate (n + 1) 0)
theorem lcW_snoc (n : Nat) (l : List (List Int)) (p : List Int) : lcW n (l ++ [p]) = lcStep (lcW n l) p := by simp [lcW, List.foldl_append]
theorem lcW_facts (n : Nat) : ∀ (k : Nat) (l : List (List Int)), l.length = k → (lcW n l).length = n + 1 ∧ ∀ i, 0 ≤ (lcW n l).getD i 0 ∧ (lcW n l).getD i 0 ≤ k := by
  intro k
  induction k with
  | zero =>
    intro l hl
    have : l = [] := List.eq_nil_of_length_eq_zero hl
    subst this
    refine ⟨by simp [lcW], fun i => ?_⟩
    simp only [lcW, List.foldl_nil, List.getD_eq_getElem?_getD, List.getElem?_replicate]
    split <;> simp
  | succ k ih =>
    intro l hl
    obtain ⟨M, p, rfl⟩ : ∃ M p, l = M ++ [p] := ⟨l.dropLast, l.getLast (by rintro rfl; simp at hl), (List.dropLast_concat_getLast _).symm⟩
    obtain ⟨h1, h2⟩ := ih M (by simpa using hl)
    rw [lcW_snoc, lcStep]
    refine ⟨by simp [h1], fun i => ?_⟩
    have h3 := h2 i
    have h4 := h2 (lowsT p p.length).length
    simp only [List.getD_eq_getElem?_getD, List.getElem?_set] at h3 h4 ⊢
    split
    · rename_i e
      split
      · simp only [Option.getD_some]; omega
      · simp; omega
    · omega
open Classical in
noncomputable def LowCountsV (LL : List (List Int)) (n : Int) : List Int := if CntOk LL n then lcW n.toNat (classV LL n.toNat) else []
theorem LowCountsV_len (LL : List (List Int)) (n : Int) : (LowCountsV LL n).length < 2^38 := by
  unfold LowCountsV
  split
  · rename_i h
    have := (lcW_facts n.toNat _ (classV LL n.toNat) rfl).1
    have := h.2
    omega
  · simp
theorem c_implLowCounts {w : World} {l : Sl} {LL : List (List Int)} (hl : RowSS w l LL) (hL : LL.length < 2^38) (ht : tot LL < 2^37) (n : Int) :
    Calls PP F.impl_LowCounts #[l.v, vI n] w fun e w' => ∃ s : Sl, e = .returned s.v ∧ OwnI w' w.heap.size s (LowCountsV LL n) ∧ Below w.heap.size w w' := by
  refine impl_LowCounts.calls l n ?_
  rw [impl_LowCounts.E_s]
  refine (c_implIsBasis hl hL ht).mono ?_
  rintro e w1 ⟨rfl, hb1⟩
  refine ⟨_, rfl, ?_⟩
  refine bif_intro (fun h => ?_) (fun h => ?_)
  · have h : ¬ BasisOk LL := by simpa [IsBasisV] using h
    exact ⟨Sl.nil, rfl, by rw [LowCountsV, if_neg (fun hh => h hh.1)]; exact Own.nil _ _ _, hb1⟩
  have hB : BasisOk LL := by simpa [IsBasisV] using h
  refine c_six ?_
  refine bif_intro (fun h => ?_) (fun h => ?_)
  · have h : ¬ (0 ≤ n ∧ n ≤ 6) := by simp at h; omega
    exact ⟨Sl.nil, rfl, by rw [LowCountsV, if_neg (fun hh => h hh.2)]; exact Own.nil _ _ _, hb1⟩
  have hn : 0 ≤ n ∧ n ≤ 6 := by simpa using h
  have hV : LowCountsV LL n = lcW n.toNat (classV LL n.toNat) := by rw [LowCountsV, if_pos ⟨hB, hn⟩]
  rw [hV]
  obtain ⟨n, rfl⟩ : ∃ m : Nat, n = m := ⟨n.toNat, by omega⟩
  rw [Int.toNat_natCast, w64_succ (n := (n : Int)) (by omega) (by omega)]
  refine make_own oneInt (B := w.heap.size) hb1.size (by omega) (by omega) ?_
  intro o w2 ho hg2 _
  have ho : OwnI w2 w.heap.size o (lcW n []) := by
    rw [show ((n : Int) + 1).toNat = n + 1 by omega] at ho
    simpa [OwnI, lcW] using ho
  have hb2 := hb1.grown hg2 hb1.size (by simp)
  refine (c_class (hl.grow hb2) hB n (by omega)).mono ?_
  rintro e w3 ⟨t, rfl, hto, hb23⟩
  refine ⟨t, rfl, ?_⟩
  have hb3 := hb2.trans (hb23.mono hb2.size)
  have htn := hto.row.n
  have hcl := classV_len (LL := LL) (n := n) (by omega)
  obtain ⟨ts, hto⟩ := hto
  refine impl_LowCounts.L5_rule _ _ _ _ _ _ (I := fun i w' => 0 ≤ i ∧ i ≤ (classV LL n).length ∧ Below w.heap.size w w' ∧ OwnRows w' w2.heap.size t ts (classV LL n) ∧ OwnI w' w.heap.size o (lcW n ((classV LL n).take i.toNat))) (μ := fun i _ => ((classV LL n).length - i).toNat)
    ⟨by omega, by omega, hb3, hto, ho.grow hb23⟩ ?_
  rintro i w' ⟨hi0, hi, hb, htw, how⟩
  rw [impl_LowCounts.B5_s, htn]
  refine bif_dec (fun h3 => ?_) (fun h3 => ?_)
  · have hlt : i.toNat < (classV LL n).length := by omega
    refine OwnRows.load htw hi0 (by omega) fun r hr hor => ?_
    rw [getD_SS hlt] at hor
    have hmem := (classV_mem (List.getElem_mem hlt)).1
    have hpl := permsV_len hmem
    have hP := permsV_isP (n := n) (by omega) hmem
    refine (c_implLowsOf hor.row (by omega)).mono ?_
    rintro e w4 ⟨u, rfl, hu, hb4⟩
    refine ⟨u, rfl, ?_⟩
    rw [LowsV, if_pos hP] at hu
    have hun : u.n = (lowsT (classV LL n)[i.toNat] (classV LL n)[i.toNat].length).length := by have := hu.n; simpa using this
    have hll := lowsT_length (classV LL n)[i.toNat] (classV LL n)[i.toNat].length
    simp only [hun]
    have how4 := how.grow hb4
    obtain ⟨f1, f2⟩ := lcW_facts n _ ((classV LL n).take i.toNat) rfl
    have f3 := f2 (lowsT (classV LL n)[i.toNat] (classV LL n)[i.toNat].length).length
    rw [List.length_take] at f3
    have hb14 := hb.trans (hb4.mono hb.size)
    refine RowI.get how4.row (by omega) (by omega) ?_
    refine Own.put how4 (by omega) (by rw [List.length_map]; omega) ?_
    intro w5 ho5 hg5 hs5
    refine ⟨i + 1, by rw [w64_succ hi0 (by omega)], ⟨by omega, by omega, hb14.grown hg5 hb14.size (fun g hg => (how4.lt g hg).1), (htw.grow hb4).keepsLt (keeps_grown hg5) (fun g hg => (ho.lt g hg).2), ?_⟩, by omega⟩
    rw [show (i + 1).toNat = i.toNat + 1 by omega, List.take_succ_eq_append_getElem hlt, lcW_snoc, lcStep]
    rw [Int.toNat_natCast, w64_succ (by omega) (by omega)] at ho5
    simpa [OwnI, List.map_set] using ho5
  · rw [impl_LowCounts.A5_0_s]
    rw [show i.toNat = (classV LL n).length by omega, List.take_length] at how
    exact ⟨o, rfl, how, hb⟩
theorem c_specLowCounts0 {w : World} {l : Sl} {LL : List (List Int)} (hl : RowSS w l LL) (hL : LL.length < 2^38) (ht : tot LL < 2^37) (n : Int) :
    Calls PP F.spec_LowCounts #[l.v, vI n] w fun e w' => ∃ s : Sl, e = .returned s.v ∧ OwnI w' w.heap.size s (LowCountsV LL n) ∧ Below w.heap.size w w' := by
  refine spec_LowCounts.calls l n ?_
  rw [spec_LowCounts.E_s]
  refine (c_specIsBasis hl hL ht).mono ?_
  rintro e w1 ⟨rfl, hb1⟩
  refine ⟨_, rfl, ?_⟩
  refine bif_intro (fun h => ?_) (fun h => ?_)
  · have h : ¬ BasisOk LL := by simpa [IsBasisV] using h
    refine lit0 oneInt (B := w.heap.size) hb1.size ?_
    intro o w2 ho hg _
    exact ⟨o, rfl, by rw [LowCountsV, if_neg (fun hh => h hh.1)]; exact ho, hb1.grown hg hb1.size (by simp)⟩
  have hB : BasisOk LL := by simpa [IsBasisV] using h
  refine Pure.pcall1 (s := .bool) (c_l1In n 0 6) ?_
  refine bif_intro (fun h => ?_) (fun h => ?_)
  · have h : ¬ (0 ≤ n ∧ n ≤ 6) := by simp at h; omega
    refine lit0 oneInt (B := w.heap.size) hb1.size ?_
    intro o w2 ho hg _
    exact ⟨o, rfl, by rw [LowCountsV, if_neg (fun hh => h hh.2)]; exact ho, hb1.grown hg hb1.size (by simp)⟩
  have hn : 0 ≤ n ∧ n ≤ 6 := by simpa using h
  have hV : LowCountsV LL n = lcW n.toNat (classV LL n.toNat) := by rw [LowCountsV, if_pos ⟨hB, hn⟩]
  rw [hV]
  obtain ⟨n, rfl⟩ : ∃ m : Nat, n = m := ⟨n.toNat, by omega⟩
  rw [Int.toNat_natCast, w64_succ (n := (n : Int)) (by omega) (by omega)]
  refine make_own oneInt (B := w.heap.size) hb1.size (by omega) (by omega) ?_
  intro o w2 ho hg2 _
  have ho : OwnI w2 w.heap.size o (lcW n []) := by
    rw [show ((n : Int) + 1).toNat = n + 1 by omega] at ho
    simpa [OwnI, lcW] using ho
  have hb2 := hb1.grown hg2 hb1.size (by simp)
  refine (c_ClassOf (hl.grow hb2) hL ht n).mono ?_
  rintro e w3 ⟨t, rfl, hto, hb23⟩
  have hC : ClassOfV LL (n : Int) = classV LL n := by rw [ClassOfV, if_pos ⟨hB, by omega⟩, Int.toNat_natCast]
  rw [hC] at hto
  refine ⟨t, rfl, ?_⟩
  have hb3 := hb2.trans (hb23.mono hb2.size)
  have htn := hto.row.n
  have hcl := classV_len (LL := LL) (n := n) (by omega)
  obtain ⟨ts, hto⟩ := hto
  refine spec_LowCounts.L6_rule _ _ _ _ _ (I := fun i w' => 0 ≤ i ∧ i ≤ (classV LL n).length ∧ Below w.heap.size w w' ∧ OwnRows w' w2.heap.size t ts (classV LL n) ∧ OwnI w' w.heap.size o (lcW n ((classV LL n).take i.toNat))) (μ := fun i _ => ((classV LL n).length - i).toNat)
    ⟨by omega, by omega, hb3, hto, ho.grow hb23⟩ ?_
  rintro i w' ⟨hi0, hi, hb, htw, how⟩
  rw [spec_LowCounts.B6_s, htn]
  refine bif_dec (fun h3 => ?_) (fun h3 => ?_)
  · have hlt : i.toNat < (classV LL n).length := by omega
    refine OwnRows.load htw hi0 (by omega) fun r hr hor => ?_
    rw [getD_SS hlt] at hor
    have hmem := (classV_mem (List.getElem_mem hlt)).1
    have hpl := permsV_len hmem
    have hP := permsV_isP (n := n) (by omega) hmem
    refine (c_specLowsOf hor.row (by omega)).mono ?_
    rintro e w4 ⟨u, rfl, hu, hb4⟩
    refine ⟨u, rfl, ?_⟩
    rw [LowsV, if_pos hP] at hu
    have hun : u.n = (lowsT (classV LL n)[i.toNat] (classV LL n)[i.toNat].length).length := by have := hu.n; simpa using this
    have hll := lowsT_length (classV LL n)[i.toNat] (classV LL n)[i.toNat].length
    simp only [hun]
    have how4 := how.grow hb4
    obtain ⟨f1, f2⟩ := lcW_facts n _ ((classV LL n).take i.toNat) rfl
    have f3 := f2 (lowsT (classV LL n)[i.toNat] (classV LL n)[i.toNat].length).length
    rw [List.length_take] at f3
    have hb14 := hb.trans (hb4.mono hb.size)
    refine RowI.get how4.row (by omega) (by omega) ?_
    refine Own.put how4 (by omega) (by rw [List.length_map]; omega) ?_
    intro w5 ho5 hg5 hs5
    refine ⟨i + 1, by rw [w64_succ hi0 (by omega)], ⟨by omega, by omega, hb14.grown hg5 hb14.size (fun g hg => (how4.lt g hg).1), (htw.grow hb4).keepsLt (keeps_grown hg5) (fun g hg => (ho.lt g hg).2), ?_⟩, by omega⟩
    rw [show (i + 1).toNat = i.toNat + 1 by omega, List.take_succ_eq_append_getElem hlt, lcW_snoc, lcStep]
    rw [Int.toNat_natCast, w64_succ (by omega) (by omega)] at ho5
    simpa [OwnI, List.map_set] using ho5
  · rw [spec_LowCounts.A6_0_s]
    rw [show i.toNat = (classV LL n).length by omega, List.take_length] at how
    exact ⟨o, rfl, how, hb⟩
theorem c_specLowCounts {w : World} {l : Sl} {LL : List (List Int)} (hl : RowSS w l LL) (hL : LL.length < 2^38) (ht : tot LL < 2^37) (n : Int) :
    Calls PP F.spec_LowCounts #[l.v, vI n] w fun e w' => ∃ s : Sl, e = .returned s.v ∧ RowI w' s (LowCountsV LL n) ∧ Below w.heap.size w w' :=
  (c_specLowCounts0 hl hL ht n).mono fun e w' ⟨s, he, ho, hb⟩ => ⟨s, he, ho.row, hb⟩
end Go.Proofs.Ytlcemelmnkipmaa

/- FnLows: the law. -/
namespace Go.Proofs.Ytlcemelmnkipmaa
open Go Go.RowKit
set_option maxRecDepth 100000

def Good (w0 : World) (e : Ending) (w' : World) : Prop := e = .returned (.bool true) ∧ Below w0.heap.size w0 w'
/-! ### The draws -/
theorem c_DrawDescendingRest {w : World} {a : Sl} {L : List Int} (ha : RowB w a L) (hL : L.length < 2^60) :
    Calls PP F.spec_DrawDescendingRest #[a.v] w fun e w' => ∃ (s : Sl) (M : List Int), e = .returned s.v ∧ RowI w' s M ∧ M.length < 2^38 ∧ Below w.heap.size w w' := by
  refine spec_DrawDescendingRest.calls a ?_
  rw [spec_DrawDescendingRest.E_s]
  exact c_bentOf ha hL fun s M w' hs hM hb => ⟨s, M, rfl, hs.row, by have := hM.1; omega, hb⟩
theorem c_l2Two {w : World} {a : Sl} {L : List Int} (ha : RowB w a L) (hL : L.length < 2^60) :
    Calls PP F.spec_l2Two #[a.v] w fun e w' => ∃ (s t : Sl) (M N : List Int), e = .returned (.tuple #[s.v, t.v]) ∧ RowI w' s M ∧ M.length ≤ 9 ∧ RowI w' t N ∧ N.length ≤ 9 ∧ Below w.heap.size w w' := by
  refine spec_l2Two.calls a ?_
  rw [spec_l2Two.E_s]
  refine (c_l1New ha hL).mono ?_
  rintro e w1 ⟨c, rfl, hc⟩
  refine ⟨some c, rfl, ?_⟩
  refine (c_l2Bent hc).mono ?_
  rintro e w2 ⟨s, M, rfl, hs, hM, hc2, hk2⟩
  refine ⟨s, rfl, ?_⟩
  refine (c_l1Once hc2 (n := 8) (by omega)).mono ?_
  rintro e w3 ⟨b, rfl, hc3, hk3⟩
  refine ⟨b, rfl, ?_⟩
  have hs3 := Own.curs hs hk3 hc.lt.2
  have hsn : s.n = M.length := by have := hs3.n; simpa using this
  have h9 := hM.1
  refine bif_intro (fun _ => ?_) (fun _ => ?_)
  · refine (c_l2Bent hc3).mono ?_
    rintro e w4 ⟨t, N, rfl, ht, hN, hc4, hk4⟩
    exact ⟨t, rfl, s, t, M, N, rfl, (Own.curs hs3 hk4 hc.lt.2).row, h9, ht.row, hN.1, hc4.below⟩
  · rw [hsn]
    refine (c_l2Draw hc3 (n := M.length) (by omega)).mono ?_
    rintro e w4 ⟨t, N, rfl, ht, hN, hc4, hk4⟩
    exact ⟨t, rfl, s, t, M, N, rfl, (Own.curs hs3 hk4 hc.lt.2).row, h9, ht.row, by rw [hN.length_eq, upTo_length]; exact h9, hc4.below⟩
theorem c_DrawSameLows {w : World} {a : Sl} {L : List Int} (ha : RowB w a L) (hL : L.length < 2^60) :
    Calls PP F.spec_DrawSameLows #[a.v] w fun e w' => ∃ (s t : Sl) (M N : List Int), e = .returned (.tuple #[s.v, t.v]) ∧ RowI w' s M ∧ M.length < 2^38 ∧ RowI w' t N ∧ N.length < 2^38 ∧ Below w.heap.size w w' := by
  refine spec_DrawSameLows.calls a ?_
  rw [spec_DrawSameLows.E_s]
  refine (c_l2Two ha hL).mono ?_
  rintro e w1 ⟨s, t, M, N, rfl, hs, hM, ht, hN, hb1⟩
  refine ⟨s, t, rfl, ?_⟩
  refine (c_l1New (ha.grow hb1) hL).mono ?_
  rintro e w2 ⟨c, rfl, hc⟩
  refine ⟨some c, rfl, ?_⟩
  have hb2 := hb1.trans (hc.below.mono hb1.size)
  refine (c_specNearestRestO (hs.grow hc.below) (by omega)).mono ?_
  rintro e w3 ⟨u, rfl, hu, hb3⟩
  refine ⟨u, _, rfl, ?_⟩
  have hc3 := hc.grow hb3
  refine bif_intro (fun _ => ?_) (fun _ => ?_)
  · refine (c_l1Once hc3 (n := 2) (by omega)).mono ?_
    rintro e w4 ⟨b, rfl, hc4, hk4⟩
    refine ⟨b, rfl, ?_⟩
    have hb4 := hb1.trans (hc4.below.mono hb1.size)
    refine bif_intro (fun _ => ?_) (fun _ => ?_)
    · exact ⟨s, u, M, _, rfl, hs.grow hc4.below, by omega, (Own.curs hu hk4 hc.lt.2).row, RestV_len _ _, hb4⟩
    · exact ⟨s, t, M, N, rfl, hs.grow hc4.below, by omega, ht.grow hc4.below, by omega, hb4⟩
  · exact ⟨s, t, M, N, rfl, hs.grow hc3.below, by omega, ht.grow hc3.below, by omega, hb1.trans (hc3.below.mono hb1.size)⟩

theorem c_DrawLowCounts {w : World} {a : Sl} {L : List Int} (ha : RowB w a L) (hL : L.length < 2^60) :
    Calls PP F.spec_DrawLowCounts #[a.v] w fun e w' => ∃ (s : Sl) (LL : List (List Int)) (n : Int), e = .returned (.tuple #[s.v, vI n]) ∧ RowSS w' s LL ∧ LL.length ≤ 4 ∧ tot LL ≤ 40 ∧ -1 ≤ n ∧ n ≤ 7 ∧ Below w.heap.size w w' := by
  refine spec_DrawLowCounts.calls a ?_
  rw [spec_DrawLowCounts.E_s]
  refine (c_l12Case ha hL).mono ?_
  rintro e w1 ⟨s, LL, n, rfl, h⟩
  exact ⟨s, n, rfl, s, LL, n, rfl, h⟩

/-! ### The tail -/
theorem isP123 : IsP [1, 2, 3] := permsV_isP (n := 3) (by omega) (by decide)
theorem isP132 : IsP [1, 3, 2] := permsV_isP (n := 3) (by omega) (by decide)
theorem basis_one {Q : List Int} (h : IsP Q) (h0 : Q ≠ []) : BasisOk [Q] := by
  refine ⟨by simp, fun k hk => ?_⟩
  have : k = 0 := by simp at hk; omega
  subst this
  exact ⟨h, h0, fun hh => by omega, fun i hi => by omega⟩
theorem low_counts : LowCountsV [[1, 2, 3]] 4 = LowCountsV [[1, 3, 2]] 4 := by
  rw [LowCountsV, LowCountsV, if_pos ⟨basis_one isP123 (by simp), by omega, by omega⟩, if_pos ⟨basis_one isP132 (by simp), by omega, by omega⟩]
  decide +kernel
/-- A basis of one pattern, as a literal. -/
theorem lit_basis {w : World} {r : Sl} {Q : List Int} (hr : RowI w r Q) {K : Sl → World → Prop} (h : ∀ s w', RowSS w' s [Q] → Below w.heap.size w w' → K s w') : sem1 .sl PP (Instr.buildSlice T_SSint 1 #[(0, r.v)]) w K := by
  refine lit1 oneSint (B := w.heap.size) (Nat.le_refl _) (One.sl r) ?_
  intro s w1 hs hg _
  have hb := below_of_grow hg
  refine h s w1 ⟨[r], hs.row, rfl, fun i t M e1 e2 => ?_⟩ hb
  cases i with
  | zero => simp at e1 e2; subst e1 e2; exact hr.grow hb
  | succ i => simp at e1
theorem lawJ20 {w0 w : World} (hb : Below w0.heap.size w0 w) : laws_FnLows.J20 std w (Good w0) := by
  rw [laws_FnLows.J20_s]
  refine litL (B := w.heap.size) (Nat.le_refl _) 3 _ [1, 2, 3] (by omega) rfl (by omega) (by kernel_rfl) ?_
  intro r w_1 hr g1
  have hb := hb.trans (g1.mono hb.size)
  have hr := hr.row
  refine lit_basis hr ?_
  intro s w_2 hs g2
  have hb := hb.trans (g2.mono hb.size)
  have hr := hr.grow g2
  refine (c_implLowCounts hs (by simp) (by simp [tot]) 4).mono ?_
  rintro e w_3 ⟨x, rfl, hx, g3⟩
  refine ⟨x, rfl, ?_⟩
  have hb := hb.trans (g3.mono hb.size)
  have hr := hr.grow g3
  have hs := hs.grow g3
  have hx := hx.row
  refine litL (B := w_3.heap.size) (Nat.le_refl _) 3 _ [1, 3, 2] (by omega) rfl (by omega) (by kernel_rfl) ?_
  intro q w_4 hq g4
  have hb := hb.trans (g4.mono hb.size)
  have hr := hr.grow g4
  have hs := hs.grow g4
  have hx := hx.grow g4
  have hq := hq.row
  refine lit_basis hq ?_
  intro t w_5 ht g5
  have hb := hb.trans (g5.mono hb.size)
  have hr := hr.grow g5
  have hs := hs.grow g5
  have hx := hx.grow g5
  have hq := hq.grow g5
  refine (c_implLowCounts ht (by simp) (by simp [tot]) 4).mono ?_
  rintro e w_6 ⟨y, rfl, hy, g6⟩
  refine ⟨y, rfl, ?_⟩
  have hb := hb.trans (g6.mono hb.size)
  have hr := hr.grow g6
  have hs := hs.grow g6
  have hx := hx.grow g6
  have hq := hq.grow g6
  have ht := ht.grow g6
  have hy := hy.row
  have hl := LowCountsV_len [[1, 2, 3]] 4
  refine Quiet.call1 (s := .bool) (c_sameInts hx hy (by omega)) ?_
  intro w_7 g7
  replace g7 : Below w_6.heap.size w_6 w_7 := g7.below _
  have hb := hb.trans (g7.mono hb.size)
  have hr := hr.grow g7
  have hs := hs.grow g7
  have hx := hx.grow g7
  have hq := hq.grow g7
  have ht := ht.grow g7
  have hy := hy.grow g7
  exact ⟨by rw [decide_eq_true low_counts], hb⟩
theorem lawJ18 {w0 w : World} {p d n : Sl} {P : List Int} (hb : Below w0.heap.size w0 w) (h : IsP P) (hp : RowI w p P) (hd : RowI w d (RestV pkD P)) (hn : RowI w n (RestV pkN P)) : laws_FnLows.J18 std p d n w (Good w0) := by
  have h8 := h.1
  have ld := RestV_len pkD P
  have ln := RestV_len pkN P
  have j19 : ∀ w', Below w0.heap.size w0 w' → laws_FnLows.J19 std false w' (Good w0) := fun w' hb => by
    rw [laws_FnLows.J19_s]
    refine bif_f rfl ?_
    exact lawJ20 hb
  rw [laws_FnLows.J18_s]
  refine litL (B := w.heap.size) (Nat.le_refl _) 3 _ [1, 3, 2] (by omega) rfl (by omega) (by kernel_rfl) ?_
  intro r w_8 hr g8
  have hb := hb.trans (g8.mono hb.size)
  have hp := hp.grow g8
  have hd := hd.grow g8
  have hn := hn.grow g8
  have hr := hr.row
  refine (c_specHasPattern hp hr (by omega) (by simp)).mono ?_
  rintro e w_9 ⟨rfl, g9⟩
  refine ⟨_, rfl, ?_⟩
  have hb := hb.trans (g9.mono hb.size)
  have hp := hp.grow g9
  have hd := hd.grow g9
  have hn := hn.grow g9
  have hr := hr.grow g9
  rw [hasPV_eq h isP132]
  refine bif_intro (fun h1 => ?_) (fun h1 => ?_)
  · have e1 : RestV pkN P = P := n_self h (by simpa using h1)
    refine Quiet.call1 (s := .bool) (c_sameInts hn hp (by omega)) ?_
    intro w_10 g10
    replace g10 : Below w_9.heap.size w_9 w_10 := g10.below _
    have hb := hb.trans (g10.mono hb.size)
    have hp := hp.grow g10
    have hd := hd.grow g10
    have hn := hn.grow g10
    have hr := hr.grow g10
    refine bif_f (by rw [e1]; simp) ?_
    refine litL (B := w_10.heap.size) (Nat.le_refl _) 3 _ [1, 2, 3] (by omega) rfl (by omega) (by kernel_rfl) ?_
    intro q w_11 hq g11
    have hb := hb.trans (g11.mono hb.size)
    have hp := hp.grow g11
    have hd := hd.grow g11
    have hn := hn.grow g11
    have hr := hr.grow g11
    have hq := hq.row
    refine (c_specHasPattern hp hq (by omega) (by simp)).mono ?_
    rintro e w_12 ⟨rfl, g12⟩
    refine ⟨_, rfl, ?_⟩
    have hb := hb.trans (g12.mono hb.size)
    have hp := hp.grow g12
    have hd := hd.grow g12
    have hn := hn.grow g12
    have hr := hr.grow g12
    have hq := hq.grow g12
    rw [hasPV_eq h isP123]
    refine bif_intro (fun h2 => ?_) (fun h2 => j19 _ hb)
    have e2 : RestV pkD P = P := d_self h (by simpa using h2)
    refine Quiet.call1 (s := .bool) (c_sameInts hd hp (by omega)) ?_
    intro w_13 g13
    replace g13 : Below w_12.heap.size w_12 w_13 := g13.below _
    have hb := hb.trans (g13.mono hb.size)
    have hp := hp.grow g13
    have hd := hd.grow g13
    have hn := hn.grow g13
    have hr := hr.grow g13
    have hq := hq.grow g13
    rw [e2, decide_eq_true rfl]
    exact j19 _ hb
  · skip
    refine litL (B := w_9.heap.size) (Nat.le_refl _) 3 _ [1, 2, 3] (by omega) rfl (by omega) (by kernel_rfl) ?_
    intro q w_14 hq g14
    have hb := hb.trans (g14.mono hb.size)
    have hp := hp.grow g14
    have hd := hd.grow g14
    have hn := hn.grow g14
    have hr := hr.grow g14
    have hq := hq.row
    refine (c_specHasPattern hp hq (by omega) (by simp)).mono ?_
    rintro e w_15 ⟨rfl, g15⟩
    refine ⟨_, rfl, ?_⟩
    have hb := hb.trans (g15.mono hb.size)
    have hp := hp.grow g15
    have hd := hd.grow g15
    have hn := hn.grow g15
    have hr := hr.grow g15
    have hq := hq.grow g15
    rw [hasPV_eq h isP123]
    refine bif_intro (fun h2 => ?_) (fun h2 => j19 _ hb)
    have e2 : RestV pkD P = P := d_self h (by simpa using h2)
    refine Quiet.call1 (s := .bool) (c_sameInts hd hp (by omega)) ?_
    intro w_16 g16
    replace g16 : Below w_15.heap.size w_15 w_16 := g16.below _
    have hb := hb.trans (g16.mono hb.size)
    have hp := hp.grow g16
    have hd := hd.grow g16
    have hn := hn.grow g16
    have hr := hr.grow g16
    have hq := hq.grow g16
    rw [e2, decide_eq_true rfl]
    exact j19 _ hb
theorem lawJ14 {w0 w : World} {p d n : Sl} {P : List Int} (hb : Below w0.heap.size w0 w) (h : IsP P) (hp : RowI w p P) (hd : RowI w d (RestV pkD P)) (hn : RowI w n (RestV pkN P)) : laws_FnLows.J14 std p d n w (Good w0) := by
  have h8 := h.1
  have ld := RestV_len pkD P
  have ln := RestV_len pkN P
  have iD := rest_isP (pick_D P) h
  have iN := rest_isP (pick_N P) h
  rw [laws_FnLows.J14_s]
  refine (c_implNearestRest hd (by omega)).mono ?_
  rintro e w_17 ⟨x, rfl, hx, g17⟩
  refine ⟨x, _, rfl, ?_⟩
  have hb := hb.trans (g17.mono hb.size)
  have hp := hp.grow g17
  have hd := hd.grow g17
  have hn := hn.grow g17
  have hx := hx.row
  refine (c_implDescendingRest hn (by omega)).mono ?_
  rintro e w_18 ⟨y, rfl, hy, g18⟩
  refine ⟨y, _, rfl, ?_⟩
  have hb := hb.trans (g18.mono hb.size)
  have hp := hp.grow g18
  have hd := hd.grow g18
  have hn := hn.grow g18
  have hx := hx.grow g18
  have hy := hy.row
  rw [rest_back (pick_D P) h] at hx
  rw [rest_back (pick_N P) h] at hy
  refine (c_implSameLows hp (by omega) hd (by omega)).mono ?_
  rintro e w_19 ⟨rfl, g19⟩
  refine ⟨_, rfl, ?_⟩
  have hb := hb.trans (g19.mono hb.size)
  have hp := hp.grow g19
  have hd := hd.grow g19
  have hn := hn.grow g19
  have hx := hx.grow g19
  have hy := hy.grow g19
  refine bif_f (by rw [rest_same (pick_D P) h]; rfl) ?_
  refine (c_implSameLows hp (by omega) hn (by omega)).mono ?_
  rintro e w_20 ⟨rfl, g20⟩
  refine ⟨_, rfl, ?_⟩
  have hb := hb.trans (g20.mono hb.size)
  have hp := hp.grow g20
  have hd := hd.grow g20
  have hn := hn.grow g20
  have hx := hx.grow g20
  have hy := hy.grow g20
  refine bif_f (by rw [rest_same (pick_N P) h]; rfl) ?_
  refine litL (B := w_20.heap.size) (Nat.le_refl _) 3 _ [1, 2, 3] (by omega) rfl (by omega) (by kernel_rfl) ?_
  intro r w_21 hr g21
  have hb := hb.trans (g21.mono hb.size)
  have hp := hp.grow g21
  have hd := hd.grow g21
  have hn := hn.grow g21
  have hx := hx.grow g21
  have hy := hy.grow g21
  have hr := hr.row
  refine (c_specHasPattern hd hr (by omega) (by simp)).mono ?_
  rintro e w_22 ⟨rfl, g22⟩
  refine ⟨_, rfl, ?_⟩
  have hb := hb.trans (g22.mono hb.size)
  have hp := hp.grow g22
  have hd := hd.grow g22
  have hn := hn.grow g22
  have hx := hx.grow g22
  have hy := hy.grow g22
  have hr := hr.grow g22
  refine bif_f (by rw [hasPV_eq iD isP123, d_avoids h]) ?_
  refine litL (B := w_22.heap.size) (Nat.le_refl _) 3 _ [1, 3, 2] (by omega) rfl (by omega) (by kernel_rfl) ?_
  intro q w_23 hq g23
  have hb := hb.trans (g23.mono hb.size)
  have hp := hp.grow g23
  have hd := hd.grow g23
  have hn := hn.grow g23
  have hx := hx.grow g23
  have hy := hy.grow g23
  have hr := hr.grow g23
  have hq := hq.row
  refine (c_specHasPattern hn hq (by omega) (by simp)).mono ?_
  rintro e w_24 ⟨rfl, g24⟩
  refine ⟨_, rfl, ?_⟩
  have hb := hb.trans (g24.mono hb.size)
  have hp := hp.grow g24
  have hd := hd.grow g24
  have hn := hn.grow g24
  have hx := hx.grow g24
  have hy := hy.grow g24
  have hr := hr.grow g24
  have hq := hq.grow g24
  refine bif_f (by rw [hasPV_eq iN isP132, n_avoids h]) ?_
  refine bif_f (by simp [iD]) ?_
  refine bif_f (by simp [iN]) ?_
  refine Quiet.call1 (s := .bool) (c_sameInts hx hn (by omega)) ?_
  intro w_25 g25
  replace g25 : Below w_24.heap.size w_24 w_25 := g25.below _
  have hb := hb.trans (g25.mono hb.size)
  have hp := hp.grow g25
  have hd := hd.grow g25
  have hn := hn.grow g25
  have hx := hx.grow g25
  have hy := hy.grow g25
  have hr := hr.grow g25
  have hq := hq.grow g25
  refine bif_f (by simp) ?_
  refine Quiet.call1 (s := .bool) (c_sameInts hy hd (by omega)) ?_
  intro w_26 g26
  replace g26 : Below w_25.heap.size w_25 w_26 := g26.below _
  have hb := hb.trans (g26.mono hb.size)
  have hp := hp.grow g26
  have hd := hd.grow g26
  have hn := hn.grow g26
  have hx := hx.grow g26
  have hy := hy.grow g26
  have hr := hr.grow g26
  have hq := hq.grow g26
  rw [laws_FnLows.J17_s]
  refine bif_f (by simp) ?_
  exact lawJ18 hb h hp hd hn
set_option maxHeartbeats 2000000 in
theorem lawC_FnLows (a : Sl) (L : List Int) (w : World) (ha : RowB w a L) (_ : L.length ≤ maxLen) :
    Calls PP F.laws_FnLows #[a.v] w fun e w' => e = .returned (.bool true) ∧ Below w.heap.size w w' := by
  classical
  refine laws_FnLows.calls a ?_
  rw [laws_FnLows.E_s]
  have hb : Below w.heap.size w w := Below.refl _ _
  refine Pure.pcall1 (s := .bool) (c_big a) ?_
  refine bif_dec (fun _ => ⟨rfl, hb⟩) (fun hbig => ?_)
  have hL : L.length < 2^60 := by have := ha.n; simp at this; omega
  refine (c_DrawDescendingRest ha hL).mono ?_
  rintro e w_27 ⟨p, P, rfl, hp, hpl, g27⟩
  refine ⟨p, rfl, ?_⟩
  have hb := hb.trans (g27.mono hb.size)
  have ha := ha.grow g27
  have ld := RestV_len pkD P
  have ln := RestV_len pkN P
  refine (c_implDescendingRest hp hpl).mono ?_
  rintro e w_28 ⟨d, rfl, hd, g28⟩
  refine ⟨d, _, rfl, ?_⟩
  have hb := hb.trans (g28.mono hb.size)
  have ha := ha.grow g28
  have hp := hp.grow g28
  have hd := hd.row
  refine (c_specDescendingRest hp hpl).mono ?_
  rintro e w_29 ⟨d2, rfl, hd2, g29⟩
  refine ⟨d2, _, rfl, ?_⟩
  have hb := hb.trans (g29.mono hb.size)
  have ha := ha.grow g29
  have hp := hp.grow g29
  have hd := hd.grow g29
  refine (c_implNearestRest hp hpl).mono ?_
  rintro e w_30 ⟨n, rfl, hn, g30⟩
  refine ⟨n, _, rfl, ?_⟩
  have hb := hb.trans (g30.mono hb.size)
  have ha := ha.grow g30
  have hp := hp.grow g30
  have hd := hd.grow g30
  have hd2 := hd2.grow g30
  have hn := hn.row
  refine (c_specNearestRest hp hpl).mono ?_
  rintro e w_31 ⟨n2, rfl, hn2, g31⟩
  refine ⟨n2, _, rfl, ?_⟩
  have hb := hb.trans (g31.mono hb.size)
  have ha := ha.grow g31
  have hp := hp.grow g31
  have hd := hd.grow g31
  have hd2 := hd2.grow g31
  have hn := hn.grow g31
  refine (c_DrawSameLows ha hL).mono ?_
  rintro e w_32 ⟨s, t, M, N, rfl, hs, hM, ht, hN, g32⟩
  refine ⟨s, t, rfl, ?_⟩
  have hb := hb.trans (g32.mono hb.size)
  have ha := ha.grow g32
  have hp := hp.grow g32
  have hd := hd.grow g32
  have hd2 := hd2.grow g32
  have hn := hn.grow g32
  have hn2 := hn2.grow g32
  refine (c_DrawLowCounts ha hL).mono ?_
  rintro e w_33 ⟨l, LL, k, rfl, hl, hl1, hl2, hk1, hk2, g33⟩
  refine ⟨l, k, rfl, ?_⟩
  have hb := hb.trans (g33.mono hb.size)
  have ha := ha.grow g33
  have hp := hp.grow g33
  have hd := hd.grow g33
  have hd2 := hd2.grow g33
  have hn := hn.grow g33
  have hn2 := hn2.grow g33
  have hs := hs.grow g33
  have ht := ht.grow g33
  refine bif_f (by simp) ?_
  refine Quiet.call1 (s := .bool) (c_sameInts hd hd2 (by omega)) ?_
  intro w_34 g34
  replace g34 : Below w_33.heap.size w_33 w_34 := g34.below _
  have hb := hb.trans (g34.mono hb.size)
  have hp := hp.grow g34
  have hd := hd.grow g34
  have hd2 := hd2.grow g34
  have hn := hn.grow g34
  have hn2 := hn2.grow g34
  have hs := hs.grow g34
  have ht := ht.grow g34
  have hl := hl.grow g34
  refine bif_f (by simp) ?_
  refine bif_f (by simp) ?_
  refine Quiet.call1 (s := .bool) (c_sameInts hn hn2 (by omega)) ?_
  intro w_35 g35
  replace g35 : Below w_34.heap.size w_34 w_35 := g35.below _
  have hb := hb.trans (g35.mono hb.size)
  have hp := hp.grow g35
  have hd := hd.grow g35
  have hd2 := hd2.grow g35
  have hn := hn.grow g35
  have hn2 := hn2.grow g35
  have hs := hs.grow g35
  have ht := ht.grow g35
  have hl := hl.grow g35
  refine bif_f (by simp) ?_
  refine (c_implSameLows hs hM ht hN).mono ?_
  rintro e w_36 ⟨rfl, g36⟩
  refine ⟨_, rfl, ?_⟩
  have hb := hb.trans (g36.mono hb.size)
  have hp := hp.grow g36
  have hd := hd.grow g36
  have hn := hn.grow g36
  have hs := hs.grow g36
  have ht := ht.grow g36
  have hl := hl.grow g36
  refine (c_specSameLows hs hM ht hN).mono ?_
  rintro e w_37 ⟨rfl, g37⟩
  refine ⟨_, rfl, ?_⟩
  have hb := hb.trans (g37.mono hb.size)
  have hp := hp.grow g37
  have hd := hd.grow g37
  have hn := hn.grow g37
  have hs := hs.grow g37
  have ht := ht.grow g37
  have hl := hl.grow g37
  refine bif_f (by simp) ?_
  refine (c_implLowCounts hl (by omega) (by omega) k).mono ?_
  rintro e w_38 ⟨x, rfl, hx, g38⟩
  refine ⟨x, rfl, ?_⟩
  have hb := hb.trans (g38.mono hb.size)
  have hp := hp.grow g38
  have hd := hd.grow g38
  have hn := hn.grow g38
  have hs := hs.grow g38
  have ht := ht.grow g38
  have hl := hl.grow g38
  have hx := hx.row
  refine (c_specLowCounts hl (by omega) (by omega) k).mono ?_
  rintro e w_39 ⟨y, rfl, hy, g39⟩
  refine ⟨y, rfl, ?_⟩
  have hb := hb.trans (g39.mono hb.size)
  have hp := hp.grow g39
  have hd := hd.grow g39
  have hn := hn.grow g39
  have hs := hs.grow g39
  have ht := ht.grow g39
  have hl := hl.grow g39
  have hx := hx.grow g39
  have hxl := LowCountsV_len LL k
  refine Quiet.call1 (s := .bool) (c_sameInts hx hy (by omega)) ?_
  intro w_40 g40
  replace g40 : Below w_39.heap.size w_39 w_40 := g40.below _
  have hb := hb.trans (g40.mono hb.size)
  have hp := hp.grow g40
  have hd := hd.grow g40
  have hn := hn.grow g40
  have hs := hs.grow g40
  have ht := ht.grow g40
  have hl := hl.grow g40
  have hx := hx.grow g40
  have hy := hy.grow g40
  rw [laws_FnLows.J11_s]
  refine bif_f (by simp) ?_
  rw [laws_FnLows.J12_s]
  refine bif_intro (fun h => ?_) (fun h => ?_)
  · have h : ¬ IsP P := by simpa using h
    rw [laws_FnLows.J13_s]
    refine bif_t rfl ?_
    refine bif_t (by simp [h]) ?_
    exact ⟨by simp [h], hb⟩
  · have h : IsP P := by simpa using h
    rw [laws_FnLows.J13_s]
    refine bif_f (by simp [h]) ?_
    exact lawJ14 hb h hp hd hn
end Go.Proofs.Ytlcemelmnkipmaa
