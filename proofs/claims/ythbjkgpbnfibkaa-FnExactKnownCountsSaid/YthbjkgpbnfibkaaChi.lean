/- One more number at a site: both texts, and ChildAt's law. -/
import Derived.Test.YthbjkgpbnfibkaaCodeCh
import Derived.Test.YthbjkgpbnfibkaaIns
import Derived.Test.YthbjkgpbnfibkaaL1
import Derived.Test.YthbjkgpbnfibkaaLaw2
import Derived.Test.YthbjkgpbnfibkaaPermMath
namespace Go.Proofs.Ythbjkgpbnfibkaa
open Go Go.RowKit
set_option maxRecDepth 100000

def childW (L : List Int) (i : Nat) : List Int := L.take i ++ ((L.length : Int) + 1) :: L.drop i
theorem childW_length {L : List Int} {i : Nat} (hi : i ≤ L.length) : (childW L i).length = L.length + 1 := by simp [childW]; omega
theorem c_child {w : World} {a : Sl} {L : List Int} (ha : RowI w a L) (hL : L.length < 2^37) {i : Nat} (hi : i ≤ L.length) :
    Calls PP F.impl_child #[a.v, vI i] w fun e w' => ∃ s : Sl, e = .returned s.v ∧ OwnI w' w.heap.size s (childW L i) ∧ Below w.heap.size w w' := by
  have han : a.n = L.length := by have := ha.n; simpa using this
  refine impl_child.calls a i ?_
  rw [impl_child.E_s, han]
  refine (c_Clone ha (by omega)).mono ?_
  rintro e w1 ⟨s, rfl, hs, hb1⟩
  refine ⟨s, rfl, ?_⟩
  rw [w64_succ (n := (L.length : Int)) (by omega) (by omega)]
  refine lit1 oneInt (B := w.heap.size) hb1.size (One.int _) ?_
  intro v w2 hv hg2 hn2
  have hb2 := hb1.grown hg2 hb1.size (by simp)
  have hs2 : OwnI w2 w.heap.size s L := hs.kept hg2 (by simp)
  have hap : Apt v s := fun g e1 e2 => by
    rcases hn2 g e1 with h | h
    · simp [Sl.blk, Sl.nil] at h
    · have := (hs.lt g e2).2; omega
  refine (c_Insert (x := (L.length : Int) + 1) hs2 hb2.size hv hap (by omega) hi).mono ?_
  rintro e w3 ⟨t, rfl, ht, hg3, _⟩
  exact ⟨t, rfl, t, rfl, ht, hb2.grown hg3 hb2.size (fun g hg => (hs2.lt g hg).1)⟩

theorem c_l14Child {w : World} {a : Sl} {L : List Int} (ha : RowI w a L) (hL : L.length < 2^37) {i : Nat} (hi : i ≤ L.length) :
    Calls PP F.spec_l14Child #[a.v, vI i] w fun e w' => ∃ s : Sl, e = .returned s.v ∧ OwnI w' w.heap.size s (childW L i) ∧ Below w.heap.size w w' := by
  have han : a.n = L.length := by have := ha.n; simpa using this
  refine spec_l14Child.calls a i ?_
  rw [spec_l14Child.E_s, han]
  refine drew_intro fun w0 hd => ?_
  have ha0 := ha.heap hd.heap'
  have hbd : Below w.heap.size w w0 := hd.below _
  refine Row.cut ha0 (by simp) (by simp <;> omega) (by simp <;> omega) ?_
  intro s1 hs1
  refine Row.cut ha0 (lo := some (i : Int)) (hi := none) (by simp) (by simp <;> omega) (by simp <;> omega) ?_
  intro s2 hs2
  have q1 : (List.take ((some (i : Int)).getD (a.n : Int)).toNat (L.map vI)).drop ((none : Option Int).getD 0).toNat = (L.take i).map vI := by simp
  have q2 : (List.take ((none : Option Int).getD (a.n : Int)).toNat (L.map vI)).drop ((some (i : Int)).getD 0).toNat = (L.drop i).map vI := by
    simp only [Option.getD_none, Option.getD_some, Int.toNat_natCast]
    rw [List.take_of_length_le (by simp <;> omega), List.map_drop]
  rw [q1] at hs1
  rw [q2] at hs2
  have hsz : w0.heap.size = w.heap.size := by rw [hd.heap']
  rw [w64_succ (n := (L.length : Int)) (by omega) (by omega)]
  have hlt : (L.take i).length < 2^38 ∧ (L.drop i).length < 2^38 := by simp; omega
  -- whatever the order, the three parts are put behind one another
  have fin : ∀ (w2 : World) (t r : Sl), OwnI w2 w.heap.size t [] → OwnI w2 w.heap.size r [(L.length : Int) + 1] → Apt t r → Below w.heap.size w w2 →
      sem1 .sl PP (Builtin.append_ #[T_Sint, T_Sint] T_Sint #[t.v, s1.v]) w2 fun (a : Sl) w3 => sem1 .sl PP (Builtin.append_ #[T_Sint, T_Sint] T_Sint #[a.v, r.v]) w3 fun (b : Sl) w4 => sem1 .sl PP (Builtin.append_ #[T_Sint, T_Sint] T_Sint #[b.v, s2.v]) w4 fun (c : Sl) w5 =>
        ∃ s : Sl, (Ending.returned c.v) = .returned s.v ∧ OwnI w5 w.heap.size s (childW L i) ∧ Below w.heap.size w w5 := by
    intro w2 t r ht hr hap hb2
    have hone : ∀ (M : List Int), ∀ v ∈ M.map vI, One v := fun M v hv => by obtain ⟨y, _, rfl⟩ := List.mem_map.1 hv; exact One.int y
    have hb02 : Below w0.heap.size w0 w2 := ⟨hb2.os.trans hbd.os.symm, hb2.tape.trans hbd.tape.symm, hb2.output.trans hbd.output.symm, by have := hb2.size; omega, fun k hk => by rw [hb2.block k (by omega), hbd.block k (by omega)]⟩
    refine append_row oneInt ht hb2.size (hs1.grow hb02) (hone _) (by simp <;> omega) ?_
    intro a w3 ha hg3 hn3 _
    have ha : OwnI w3 w.heap.size a (L.take i) := by simpa [OwnI] using ha
    have hb3 := hb2.grown hg3 hb2.size (fun g hg => (ht.lt g hg).1)
    have hr3 : OwnI w3 w.heap.size r [(L.length : Int) + 1] := hr.kept hg3 (fun g e1 e2 => hap g e2 e1)
    refine append_row oneInt ha hb3.size hr3.row (hone [_]) (by simp <;> omega) ?_
    intro b w4 hbo hg4 _ _
    have hbo : OwnI w4 w.heap.size b (L.take i ++ [(L.length : Int) + 1]) := by simpa [OwnI] using hbo
    have hb4 := hb3.grown hg4 hb3.size (fun g hg => (ha.lt g hg).1)
    have hb04 : Below w0.heap.size w0 w4 := ⟨hb4.os.trans hbd.os.symm, hb4.tape.trans hbd.tape.symm, hb4.output.trans hbd.output.symm, by have := hb4.size; omega, fun k hk => by rw [hb4.block k (by omega), hbd.block k (by omega)]⟩
    refine append_row oneInt hbo hb4.size (hs2.grow hb04) (hone _) (by simp <;> omega) ?_
    intro c w5 hc hg5 _ _
    exact ⟨c, rfl, by simpa [OwnI, childW] using hc, hb4.grown hg5 hb4.size (fun g hg => (hbo.lt g hg).1)⟩
  refine ⟨?_, ?_⟩
  · refine lit0 oneInt (B := w.heap.size) (by omega) ?_
    intro t w1 ht hg1 hc1
    have hb1 := hbd.grown hg1 hbd.size (by simp)
    have hapt : ∀ r, Apt t r := fun r g e1 _ => by simp [Sl.blk, hc1] at e1
    refine ⟨?_, ?_⟩
    · -- the left part ahead of the number
      have hone : ∀ (M : List Int), ∀ v ∈ M.map vI, One v := fun M v hv => by obtain ⟨y, _, rfl⟩ := List.mem_map.1 hv; exact One.int y
      have hb01 : Below w0.heap.size w0 w1 := below_of_grow hg1
      refine append_row oneInt ht hb1.size (hs1.grow hb01) (hone _) (by simp <;> omega) ?_
      intro a2 w2 ha2 hg2 _ _
      have ha2 : OwnI w2 w.heap.size a2 (L.take i) := by simpa [OwnI] using ha2
      have hb2 := hb1.grown hg2 hb1.size (fun g hg => (ht.lt g hg).1)
      refine append_int ha2 hb2.size (by simp <;> omega) ?_
      intro b w3 hbo hg3 _
      have hb3 := hb2.grown hg3 hb2.size (fun g hg => (ha2.lt g hg).1)
      have hb03 : Below w0.heap.size w0 w3 := ⟨hb3.os.trans hbd.os.symm, hb3.tape.trans hbd.tape.symm, hb3.output.trans hbd.output.symm, by have := hb3.size; omega, fun k hk => by rw [hb3.block k (by omega), hbd.block k (by omega)]⟩
      refine append_row oneInt hbo hb3.size (hs2.grow hb03) (hone _) (by simp <;> omega) ?_
      intro c w4 hc hg4 _ _
      exact ⟨c, rfl, by simpa [OwnI, childW] using hc, hb3.grown hg4 hb3.size (fun g hg => (hbo.lt g hg).1)⟩
    · refine lit1 oneInt (B := w.heap.size) hb1.size (One.int _) ?_
      intro r w2 hr hg2 _
      exact fin w2 t r (ht.kept hg2 (by simp)) hr (hapt r) (hb1.grown hg2 hb1.size (by simp))
  · refine lit1 oneInt (B := w.heap.size) (by omega) (One.int _) ?_
    intro r w1 hr hg1 _
    have hb1 := hbd.grown hg1 hbd.size (by simp)
    refine lit0 oneInt (B := w.heap.size) hb1.size ?_
    intro t w2 ht hg2 hc2
    exact fin w2 t r ht (hr.kept hg2 (by simp)) (fun g e1 _ => by simp [Sl.blk, hc2] at e1) (hb1.grown hg2 hb1.size (by simp))

def ChildOk (L : List Int) (i : Int) : Prop := IsP L ∧ L.length < 8 ∧ 0 ≤ i ∧ i ≤ L.length
open Classical in
noncomputable def ChildAtV (L : List Int) (i : Int) : List Int := if ChildOk L i then childW L i.toNat else []
open Classical in
noncomputable def ChildAtV1 (L : List Int) (i : Int) : Bool := decide (ChildOk L i)
theorem ChildAtV_len (L : List Int) (i : Int) : (ChildAtV L i).length < 2^38 := by
  unfold ChildAtV
  split
  · rename_i h
    obtain ⟨h1, h2, h3, h4⟩ := h
    rw [childW_length (by omega)]; omega
  · simp
theorem c_implChildAt {w : World} {a : Sl} {L : List Int} (ha : RowI w a L) (hL : L.length < 2^38) (i : Int) :
    Calls PP F.impl_ChildAt #[a.v, vI i] w fun e w' => ∃ s : Sl, e = .returned (.tuple #[s.v, .bool (ChildAtV1 L i)]) ∧ OwnI w' w.heap.size s (ChildAtV L i) ∧ Below w.heap.size w w' := by
  have han : a.n = L.length := by have := ha.n; simpa using this
  refine impl_ChildAt.calls a i ?_
  rw [impl_ChildAt.E_s, han]
  refine (c_implIsPerm ha hL).mono ?_
  rintro e w1 ⟨rfl, hb⟩
  refine ⟨_, rfl, ?_⟩
  have no : ¬ ChildOk L i → ∃ s : Sl, (Ending.returned (.tuple #[Sl.nil.v, .bool false])) = .returned (.tuple #[s.v, .bool (ChildAtV1 L i)]) ∧ OwnI w1 w.heap.size s (ChildAtV L i) ∧ Below w.heap.size w w1 := fun hn =>
    ⟨Sl.nil, by simp [ChildAtV1, hn], by rw [ChildAtV, if_neg hn]; exact Own.nil _ _ _, hb⟩
  refine bif_intro (fun h => ?_) (fun h => ?_)
  · have h : ¬ IsP L := by simpa using h
    exact no fun hh => h hh.1
  have h : IsP L := by simpa using h
  have h8 := h.1
  refine bif_intro (fun h2 => ?_) (fun h2 => ?_)
  · have h2 : (L.length : Int) = 8 := by simpa using h2
    exact no fun hh => by have := hh.2.1; omega
  have h2 : (L.length : Int) ≠ 8 := by simpa using h2
  refine bif_dec (fun h3 => no fun hh => by have := hh.2.2.1; omega) (fun h3 => ?_)
  refine bif_dec (fun h4 => no fun hh => by have := hh.2.2.2; omega) (fun h4 => ?_)
  have hok : ChildOk L i := ⟨h, by omega, by omega, by omega⟩
  obtain ⟨m, rfl⟩ : ∃ m : Nat, i = m := ⟨i.toNat, by omega⟩
  refine (c_child (ha.grow hb) (by omega) (i := m) (by omega)).mono ?_
  rintro e w2 ⟨s, rfl, hs, hb2⟩
  refine ⟨s, rfl, s, by simp [ChildAtV1, hok], ?_, hb.trans (hb2.mono hb.size)⟩
  rw [ChildAtV, if_pos hok, Int.toNat_natCast]
  exact hs.mono hb.size
theorem c_specChildAt {w : World} {a : Sl} {L : List Int} (ha : RowI w a L) (hL : L.length < 2^38) (i : Int) :
    Calls PP F.spec_ChildAt #[a.v, vI i] w fun e w' => ∃ s : Sl, e = .returned (.tuple #[s.v, .bool (ChildAtV1 L i)]) ∧ RowI w' s (ChildAtV L i) ∧ Below w.heap.size w w' := by
  have han : a.n = L.length := by have := ha.n; simpa using this
  refine spec_ChildAt.calls a i ?_
  rw [spec_ChildAt.E_s, han]
  refine Quiet.call1 (s := .bool) (c_specIsPerm ha hL) ?_
  intro w1 hd
  have hb : Below w.heap.size w w1 := hd.below _
  have no : ¬ ChildOk L i → sem1 .sl PP (Instr.buildSlice T_Sint 0 #[]) w1 fun (ρ : Sl) w2 => ∃ s : Sl, (Ending.returned (.tuple #[ρ.v, .bool false])) = .returned (.tuple #[s.v, .bool (ChildAtV1 L i)]) ∧ RowI w2 s (ChildAtV L i) ∧ Below w.heap.size w w2 := fun hn => by
    refine lit0 oneInt (B := w.heap.size) hb.size ?_
    intro s w2 hs hg _
    exact ⟨s, by simp [ChildAtV1, hn], by rw [ChildAtV, if_neg hn]; exact hs.row, hb.grown hg hb.size (by simp)⟩
  refine bif_intro (fun h => ?_) (fun h => ?_)
  · have h : ¬ IsP L := by simpa using h
    exact no fun hh => h hh.1
  have h : IsP L := by simpa using h
  have h8 := h.1
  refine bif_intro (fun h2 => ?_) (fun h2 => ?_)
  · have h2 : (L.length : Int) = 8 := by simpa using h2
    exact no fun hh => by have := hh.2.1; omega
  have h2 : (L.length : Int) ≠ 8 := by simpa using h2
  refine Pure.pcall1 (s := .bool) (c_l1In i 0 L.length) ?_
  refine bif_intro (fun h3 => ?_) (fun h3 => ?_)
  · have h3 : ¬ (0 ≤ i ∧ i ≤ L.length) := by simp at h3; omega
    exact no fun hh => h3 ⟨hh.2.2.1, hh.2.2.2⟩
  have h3 : 0 ≤ i ∧ i ≤ L.length := by simpa using h3
  have hok : ChildOk L i := ⟨h, by omega, h3.1, h3.2⟩
  obtain ⟨m, rfl⟩ : ∃ m : Nat, i = m := ⟨i.toNat, by omega⟩
  refine (c_l14Child (ha.grow hb) (by omega) (i := m) (by omega)).mono ?_
  rintro e w2 ⟨s, rfl, hs, hb2⟩
  refine ⟨s, rfl, s, by simp [ChildAtV1, hok], ?_, hb.trans (hb2.mono hb.size)⟩
  rw [ChildAtV, if_pos hok, Int.toNat_natCast]
  exact hs.row
theorem lawC_FnExactChildAt (a0 : Sl) (L0 : List Int) (k1 : Int) (hk1 : -9223372036854775808 ≤ k1 ∧ k1 ≤ 9223372036854775807) (w : World) (ha0 : RowI w a0 L0) (hbd0 : ∀ x ∈ L0, -9223372036854775808 ≤ x ∧ x ≤ 9223372036854775807) :
    Calls PP F.laws_FnExactChildAt #[a0.v, vI k1] w fun e w' => e = .returned (.bool true) ∧ Below w.heap.size w w' := by
  have han0 : a0.n = L0.length := by have := ha0.n; simpa using this
  refine laws_FnExactChildAt.calls a0 k1 ?_
  rw [laws_FnExactChildAt.E_s]
  have b_0_0 : Below w.heap.size w w := Below.refl _ _
  refine bif_dec (fun h => ⟨rfl, b_0_0⟩) (fun h0s => ?_)
  have hL0 : L0.length < 2 ^ 38 := by omega
  refine (c_toIntS (ha0.grow b_0_0) (by omega)).mono ?_
  rintro e w1 ⟨xw0, rfl, hxw0, s_0⟩
  refine ⟨xw0, rfl, ?_⟩
  have b_0_1 := b_0_0.trans (s_0.mono b_0_0.size)
  have b_1_1 : Below w1.heap.size w1 w1 := Below.refl _ _
  refine (c_specChildAt (hxw0.row.grow b_1_1) hL0 k1).mono ?_
  rintro e w2 ⟨w0, rfl, hw0, s_1⟩
  refine ⟨w0, _, rfl, ?_⟩
  have b_0_2 := b_0_1.trans (s_1.mono b_0_1.size)
  have b_1_2 := b_1_1.trans (s_1.mono b_1_1.size)
  have b_2_2 : Below w2.heap.size w2 w2 := Below.refl _ _
  refine (c_toIntS (ha0.grow b_0_2) (by omega)).mono ?_
  rintro e w3 ⟨xx0, rfl, hxx0, s_2⟩
  refine ⟨xx0, rfl, ?_⟩
  have b_0_3 := b_0_2.trans (s_2.mono b_0_2.size)
  have b_1_3 := b_1_2.trans (s_2.mono b_1_2.size)
  have b_2_3 := b_2_2.trans (s_2.mono b_2_2.size)
  have b_3_3 : Below w3.heap.size w3 w3 := Below.refl _ _
  refine (c_implChildAt (hxx0.row.grow b_3_3) hL0 k1).mono ?_
  rintro e w4 ⟨g0, rfl, hg0, s_3⟩
  refine ⟨g0, _, rfl, ?_⟩
  have b_0_4 := b_0_3.trans (s_3.mono b_0_3.size)
  have b_1_4 := b_1_3.trans (s_3.mono b_1_3.size)
  have b_2_4 := b_2_3.trans (s_3.mono b_2_3.size)
  have b_3_4 := b_3_3.trans (s_3.mono b_3_3.size)
  have b_4_4 : Below w4.heap.size w4 w4 := Below.refl _ _
  have hv0 : (ChildAtV L0 k1).length < 2^38 := ChildAtV_len L0 k1
  refine Quiet.call1 (s := .bool) (c_eqIntS (hg0.row.grow b_4_4) (hw0.grow b_2_4) (by omega)) ?_
  intro w5 hd5
  have s_4 : Below w4.heap.size w4 w5 := hd5.below _
  have b_0_5 := b_0_4.trans (s_4.mono b_0_4.size)
  have b_1_5 := b_1_4.trans (s_4.mono b_1_4.size)
  have b_2_5 := b_2_4.trans (s_4.mono b_2_4.size)
  have b_3_5 := b_3_4.trans (s_4.mono b_3_4.size)
  have b_4_5 := b_4_4.trans (s_4.mono b_4_4.size)
  refine bif_f (by simp) ?_
  refine bif_f (by simp) ?_
  have b_5_5 : Below w5.heap.size w5 w5 := Below.refl _ _
  refine (c_toIntS (ha0.grow b_0_5) (by omega)).mono ?_
  rintro e w6 ⟨y0, rfl, hy0, s_5⟩
  refine ⟨y0, rfl, ?_⟩
  have b_0_6 := b_0_5.trans (s_5.mono b_0_5.size)
  have b_1_6 := b_1_5.trans (s_5.mono b_1_5.size)
  have b_2_6 := b_2_5.trans (s_5.mono b_2_5.size)
  have b_3_6 := b_3_5.trans (s_5.mono b_3_5.size)
  have b_4_6 := b_4_5.trans (s_5.mono b_4_5.size)
  have b_5_6 := b_5_5.trans (s_5.mono b_5_5.size)
  refine Quiet.call1 (s := .bool) (c_eqIntS (hxx0.row.grow b_3_6) hy0.row (by omega)) ?_
  intro w7 hd7
  have s_6 : Below w6.heap.size w6 w7 := hd7.below _
  have b_0_7 := b_0_6.trans (s_6.mono b_0_6.size)
  have b_1_7 := b_1_6.trans (s_6.mono b_1_6.size)
  have b_2_7 := b_2_6.trans (s_6.mono b_2_6.size)
  have b_3_7 := b_3_6.trans (s_6.mono b_3_6.size)
  have b_4_7 := b_4_6.trans (s_6.mono b_4_6.size)
  have b_5_7 := b_5_6.trans (s_6.mono b_5_6.size)
  refine bif_f (by simp) ?_
  have hxx0m := hxx0.grow b_3_7
  have hg0m := hg0.grow b_4_7
  refine (c_markIntS hxx0m (by omega) (k := 1) (by omega) (by omega)).mono ?_
  rintro e w8 ⟨rfl, _, hg_8, hz_8⟩
  have ks_8 := keeps_grown hg_8
  refine ⟨_, rfl, ?_⟩
  have lo_8 : ∀ g, xx0.blk = some g → w2.heap.size ≤ g := (fun g e => (hxx0.lt g e).1)
  have hi_8 : ∀ g, xx0.blk = some g → g < w3.heap.size := (fun g e => (hxx0.lt g e).2)
  have b_0_8 := b_0_7.trans (ks_8.below (B := w.heap.size) (fun g e => Nat.le_trans b_0_2.size (lo_8 g e)) b_0_7.size)
  have b_1_8 := b_1_7.trans (ks_8.below (B := w1.heap.size) (fun g e => Nat.le_trans b_1_2.size (lo_8 g e)) b_1_7.size)
  have b_2_8 := b_2_7.trans (ks_8.below (B := w2.heap.size) (fun g e => Nat.le_trans b_2_2.size (lo_8 g e)) b_2_7.size)
  have hg0m := hg0m.keeps ks_8 (fun g e1 e2 => by have := hi_8 g e2; have := (hg0.lt g e1).1; have := b_3_3.size; omega)
  refine bif_dec (fun h => by omega) (fun h => ?_)
  have b_8_8 : Below w8.heap.size w8 w8 := Below.refl _ _
  have hg0 := hg0m
  refine Quiet.call1 (s := .bool) (c_eqIntS (hg0.row.grow b_8_8) (hw0.grow b_2_8) (by omega)) ?_
  intro w9 hd9
  have s_8 : Below w8.heap.size w8 w9 := hd9.below _
  have b_0_9 := b_0_8.trans (s_8.mono b_0_8.size)
  have b_1_9 := b_1_8.trans (s_8.mono b_1_8.size)
  have b_2_9 := b_2_8.trans (s_8.mono b_2_8.size)
  have b_8_9 := b_8_8.trans (s_8.mono b_8_8.size)
  refine bif_f (by simp) ?_
  refine bif_f (by simp) ?_
  have hg0p := hg0.grow b_8_9
  have b_9_9 : Below w9.heap.size w9 w9 := Below.refl _ _
  refine (c_markIntS hg0p (by omega) (k := 1) (by omega) (by omega)).mono ?_
  rintro e w10 ⟨rfl, hq0, hg_10, hz_10⟩
  have ks_10 := keeps_grown hg_10
  refine ⟨_, rfl, ?_⟩
  have lo_10 : ∀ g, g0.blk = some g → w3.heap.size ≤ g := (fun g e => (hg0p.lt g e).1)
  have b_0_10 := b_0_9.trans (ks_10.below (B := w.heap.size) (fun g e => Nat.le_trans b_0_3.size (lo_10 g e)) b_0_9.size)
  have b_1_10 := b_1_9.trans (ks_10.below (B := w1.heap.size) (fun g e => Nat.le_trans b_1_3.size (lo_10 g e)) b_1_9.size)
  have b_2_10 := b_2_9.trans (ks_10.below (B := w2.heap.size) (fun g e => Nat.le_trans b_2_3.size (lo_10 g e)) b_2_9.size)
  have b_10_10 : Below w10.heap.size w10 w10 := Below.refl _ _
  refine Quiet.call1 (s := .int .i64) (c_heldIntS (n := (ChildAtV L0 k1).length) (hq0.row.grow b_10_10) (by omega) (by omega) (by omega)) ?_
  intro w11 hd11
  have s_10 : Below w10.heap.size w10 w11 := hd11.below _
  have b_0_11 := b_0_10.trans (s_10.mono b_0_10.size)
  have b_1_11 := b_1_10.trans (s_10.mono b_1_10.size)
  have b_2_11 := b_2_10.trans (s_10.mono b_2_10.size)
  have b_10_11 := b_10_10.trans (s_10.mono b_10_10.size)
  refine bif_dec (fun h => by omega) (fun h => ?_)
  refine bif_f (by simp) ?_
  have b_11_11 : Below w11.heap.size w11 w11 := Below.refl _ _
  refine (c_toIntS (ha0.grow b_0_11) (by omega)).mono ?_
  rintro e w12 ⟨xv0, rfl, hxv0, s_11⟩
  refine ⟨xv0, rfl, ?_⟩
  have b_0_12 := b_0_11.trans (s_11.mono b_0_11.size)
  have b_1_12 := b_1_11.trans (s_11.mono b_1_11.size)
  have b_2_12 := b_2_11.trans (s_11.mono b_2_11.size)
  have b_10_12 := b_10_11.trans (s_11.mono b_10_11.size)
  have b_11_12 := b_11_11.trans (s_11.mono b_11_11.size)
  have b_12_12 : Below w12.heap.size w12 w12 := Below.refl _ _
  refine (c_implChildAt (hxv0.row.grow b_12_12) hL0 k1).mono ?_
  rintro e w13 ⟨h0, rfl, hh0, s_12⟩
  refine ⟨h0, _, rfl, ?_⟩
  have b_0_13 := b_0_12.trans (s_12.mono b_0_12.size)
  have b_1_13 := b_1_12.trans (s_12.mono b_1_12.size)
  have b_2_13 := b_2_12.trans (s_12.mono b_2_12.size)
  have b_10_13 := b_10_12.trans (s_12.mono b_10_12.size)
  have b_11_13 := b_11_12.trans (s_12.mono b_11_12.size)
  have b_12_13 := b_12_12.trans (s_12.mono b_12_12.size)
  have b_13_13 : Below w13.heap.size w13 w13 := Below.refl _ _
  refine Quiet.call1 (s := .bool) (c_eqIntS (hh0.row.grow b_13_13) (hw0.grow b_2_13) (by omega)) ?_
  intro w14 hd14
  have s_13 : Below w13.heap.size w13 w14 := hd14.below _
  have b_0_14 := b_0_13.trans (s_13.mono b_0_13.size)
  have b_1_14 := b_1_13.trans (s_13.mono b_1_13.size)
  have b_2_14 := b_2_13.trans (s_13.mono b_2_13.size)
  have b_10_14 := b_10_13.trans (s_13.mono b_10_13.size)
  have b_11_14 := b_11_13.trans (s_13.mono b_11_13.size)
  have b_12_14 := b_12_13.trans (s_13.mono b_12_13.size)
  have b_13_14 := b_13_13.trans (s_13.mono b_13_13.size)
  refine bif_f (by simp) ?_
  refine bif_f (by simp) ?_
  refine Quiet.call1 (s := .int .i64) (c_heldIntS (n := (ChildAtV L0 k1).length) (hq0.row.grow b_10_14) (by omega) (by omega) (by omega)) ?_
  intro w15 hd15
  have s_14 : Below w14.heap.size w14 w15 := hd15.below _
  have b_0_15 := b_0_14.trans (s_14.mono b_0_14.size)
  have b_1_15 := b_1_14.trans (s_14.mono b_1_14.size)
  have b_2_15 := b_2_14.trans (s_14.mono b_2_14.size)
  have b_10_15 := b_10_14.trans (s_14.mono b_10_14.size)
  have b_11_15 := b_11_14.trans (s_14.mono b_11_14.size)
  have b_12_15 := b_12_14.trans (s_14.mono b_12_14.size)
  have b_13_15 := b_13_14.trans (s_14.mono b_13_14.size)
  refine bif_dec (fun h => by omega) (fun h => ?_)
  refine bif_f (by simp) ?_
  exact ⟨rfl, b_0_15⟩
end Go.Proofs.Ythbjkgpbnfibkaa
