/- Chi, SitesL, Labels, RuMath, MapI, MapR, SortF, RuS, RuI, RuLaw in one text (merge.py). -/
import Derived.Test.YtmhgjfahgemblaaCodeCh
import Derived.Test.YtmhgjfahgemblaaIns
import Derived.Test.YtmhgjfahgemblaaL1
import Derived.Test.YtmhgjfahgemblaaLaw2
import Derived.Test.YtmhgjfahgemblaaPermMath
import Derived.Test.YtmhgjfahgemblaaCodeSi
import Derived.Test.YtmhgjfahgemblaaInClS
import Derived.Test.YtmhgjfahgemblaaClass
import Derived.Test.YtmhgjfahgemblaaCodeLb
import Derived.Test.YtmhgjfahgemblaaIns15
import Derived.Test.YtmhgjfahgemblaaLawSz
import Derived.Test.YtmhgjfahgemblaaFoot
import Derived.Laws.Tables
import Derived.Maps.RangeRun
import Derived.Test.YtmhgjfahgemblaaShelf
import Derived.Test.YtmhgjfahgemblaaBasis
import Derived.Sort.OwnSorted
import Derived.Shelf.SlSortCmp.NoneTotal
import Derived.Test.YtmhgjfahgemblaaCodeRu
import Derived.Test.YtmhgjfahgemblaaSame
import Derived.Test.YtmhgjfahgemblaaEq
/- One more number at a site: both texts, and ChildAt's law. -/
namespace Go.Proofs.Ytmhgjfahgemblaa
open Go Go.RowKit
set_option maxRecDepth 100000

def childW (L : List Int) (i : Nat) : List Int := L.take i ++ ((L.length : Int) + 1) :: L.drop i
theorem childW_length {L : List Int} {i : Nat} (hi : i ≤ L.length) : (childW L i).length = L.length + 1 := by simp [childW]; omega
theorem c_child {w : World} {a : Sl} {L : List Int} (ha : RowI w a L) (hL : L.length < 2^37) {i : Nat} (hi : i ≤ L.length) :
    Calls PP F.impl_child #[a.v, vI i] w fun e w' => ∃ s : Sl, e = .returned s.v ∧ OwnI w' w.heap.size s (childW L i) ∧ Below w.heap.size w w' := by
  have han : a.n = L.length := by have := ha.n; simpa using this
  refine impl_child.calls a i ?_
  rw [impl_child.E_s, han]
  refine (c_Clone ha (by omega)).mono ?_
  rintro e w1 ⟨s, rfl, hs, hb1⟩
  refine ⟨s, rfl, ?_⟩
  rw [w64_succ (n := (L.length : Int)) (by omega) (by omega)]
  refine lit1 oneInt (B := w.heap.size) hb1.size (One.int _) ?_
  intro v w2 hv hg2 hn2
  have hb2 := hb1.grown hg2 hb1.size (by simp)
  have hs2 : OwnI w2 w.heap.size s L := hs.kept hg2 (by simp)
  have hap : Apt v s := fun g e1 e2 => by
    rcases hn2 g e1 with h | h
    · simp [Sl.blk, Sl.nil] at h
    · have := (hs.lt g e2).2; omega
  refine (c_Insert (x := (L.length : Int) + 1) hs2 hb2.size hv hap (by omega) hi).mono ?_
  rintro e w3 ⟨t, rfl, ht, hg3, _⟩
  exact ⟨t, rfl, t, rfl, ht, hb2.grown hg3 hb2.size (fun g hg => (hs2.lt g hg).1)⟩

theorem c_l14Child {w : World} {a : Sl} {L : List Int} (ha : RowI w a L) (hL : L.length < 2^37) {i : Nat} (hi : i ≤ L.length) :
    Calls PP F.spec_l14Child #[a.v, vI i] w fun e w' => ∃ s : Sl, e = .returned s.v ∧ OwnI w' w.heap.size s (childW L i) ∧ Below w.heap.size w w' := by
  have han : a.n = L.length := by have := ha.n; simpa using this
  refine spec_l14Child.calls a i ?_
  rw [spec_l14Child.E_s, han]
  refine drew_intro fun w0 hd => ?_
  have ha0 := ha.heap hd.heap'
  have hbd : Below w.heap.size w w0 := hd.below _
  refine Row.cut ha0 (by simp) (by simp <;> omega) (by simp <;> omega) ?_
  intro s1 hs1
  refine Row.cut ha0 (lo := some (i : Int)) (hi := none) (by simp) (by simp <;> omega) (by simp <;> omega) ?_
  intro s2 hs2
  have q1 : (List.take ((some (i : Int)).getD (a.n : Int)).toNat (L.map vI)).drop ((none : Option Int).getD 0).toNat = (L.take i).map vI := by simp
  have q2 : (List.take ((none : Option Int).getD (a.n : Int)).toNat (L.map vI)).drop ((some (i : Int)).getD 0).toNat = (L.drop i).map vI := by
    simp only [Option.getD_none, Option.getD_some, Int.toNat_natCast]
    rw [List.take_of_length_le (by simp <;> omega), List.map_drop]
  rw [q1] at hs1
  rw [q2] at hs2
  have hsz : w0.heap.size = w.heap.size := by rw [hd.heap']
  rw [w64_succ (n := (L.length : Int)) (by omega) (by omega)]
  have hlt : (L.take i).length < 2^38 ∧ (L.drop i).length < 2^38 := by simp; omega
  -- whatever the order, the three parts are put behind one another
  have fin : ∀ (w2 : World) (t r : Sl), OwnI w2 w.heap.size t [] → OwnI w2 w.heap.size r [(L.length : Int) + 1] → Apt t r → Below w.heap.size w w2 →
      sem1 .sl PP (Builtin.append_ #[T_Sint, T_Sint] T_Sint #[t.v, s1.v]) w2 fun (a : Sl) w3 => sem1 .sl PP (Builtin.append_ #[T_Sint, T_Sint] T_Sint #[a.v, r.v]) w3 fun (b : Sl) w4 => sem1 .sl PP (Builtin.append_ #[T_Sint, T_Sint] T_Sint #[b.v, s2.v]) w4 fun (c : Sl) w5 =>
        ∃ s : Sl, (Ending.returned c.v) = .returned s.v ∧ OwnI w5 w.heap.size s (childW L i) ∧ Below w.heap.size w w5 := by
    intro w2 t r ht hr hap hb2
    have hone : ∀ (M : List Int), ∀ v ∈ M.map vI, One v := fun M v hv => by obtain ⟨y, _, rfl⟩ := List.mem_map.1 hv; exact One.int y
    have hb02 : Below w0.heap.size w0 w2 := ⟨hb2.os.trans hbd.os.symm, hb2.tape.trans hbd.tape.symm, hb2.output.trans hbd.output.symm, by have := hb2.size; omega, fun k hk => by rw [hb2.block k (by omega), hbd.block k (by omega)]⟩
    refine append_row oneInt ht hb2.size (hs1.grow hb02) (hone _) (by simp <;> omega) ?_
    intro a w3 ha hg3 hn3 _
    have ha : OwnI w3 w.heap.size a (L.take i) := by simpa [OwnI] using ha
    have hb3 := hb2.grown hg3 hb2.size (fun g hg => (ht.lt g hg).1)
    have hr3 : OwnI w3 w.heap.size r [(L.length : Int) + 1] := hr.kept hg3 (fun g e1 e2 => hap g e2 e1)
    refine append_row oneInt ha hb3.size hr3.row (hone [_]) (by simp <;> omega) ?_
    intro b w4 hbo hg4 _ _
    have hbo : OwnI w4 w.heap.size b (L.take i ++ [(L.length : Int) + 1]) := by simpa [OwnI] using hbo
    have hb4 := hb3.grown hg4 hb3.size (fun g hg => (ha.lt g hg).1)
    have hb04 : Below w0.heap.size w0 w4 := ⟨hb4.os.trans hbd.os.symm, hb4.tape.trans hbd.tape.symm, hb4.output.trans hbd.output.symm, by have := hb4.size; omega, fun k hk => by rw [hb4.block k (by omega), hbd.block k (by omega)]⟩
    refine append_row oneInt hbo hb4.size (hs2.grow hb04) (hone _) (by simp <;> omega) ?_
    intro c w5 hc hg5 _ _
    exact ⟨c, rfl, by simpa [OwnI, childW] using hc, hb4.grown hg5 hb4.size (fun g hg => (hbo.lt g hg).1)⟩
  refine ⟨?_, ?_⟩
  · refine lit0 oneInt (B := w.heap.size) (by omega) ?_
    intro t w1 ht hg1 hc1
    have hb1 := hbd.grown hg1 hbd.size (by simp)
    have hapt : ∀ r, Apt t r := fun r g e1 _ => by simp [Sl.blk, hc1] at e1
    refine ⟨?_, ?_⟩
    · -- the left part ahead of the number
      have hone : ∀ (M : List Int), ∀ v ∈ M.map vI, One v := fun M v hv => by obtain ⟨y, _, rfl⟩ := List.mem_map.1 hv; exact One.int y
      have hb01 : Below w0.heap.size w0 w1 := below_of_grow hg1
      refine append_row oneInt ht hb1.size (hs1.grow hb01) (hone _) (by simp <;> omega) ?_
      intro a2 w2 ha2 hg2 _ _
      have ha2 : OwnI w2 w.heap.size a2 (L.take i) := by simpa [OwnI] using ha2
      have hb2 := hb1.grown hg2 hb1.size (fun g hg => (ht.lt g hg).1)
      refine append_int ha2 hb2.size (by simp <;> omega) ?_
      intro b w3 hbo hg3 _
      have hb3 := hb2.grown hg3 hb2.size (fun g hg => (ha2.lt g hg).1)
      have hb03 : Below w0.heap.size w0 w3 := ⟨hb3.os.trans hbd.os.symm, hb3.tape.trans hbd.tape.symm, hb3.output.trans hbd.output.symm, by have := hb3.size; omega, fun k hk => by rw [hb3.block k (by omega), hbd.block k (by omega)]⟩
      refine append_row oneInt hbo hb3.size (hs2.grow hb03) (hone _) (by simp <;> omega) ?_
      intro c w4 hc hg4 _ _
      exact ⟨c, rfl, by simpa [OwnI, childW] using hc, hb3.grown hg4 hb3.size (fun g hg => (hbo.lt g hg).1)⟩
    · refine lit1 oneInt (B := w.heap.size) hb1.size (One.int _) ?_
      intro r w2 hr hg2 _
      exact fin w2 t r (ht.kept hg2 (by simp)) hr (hapt r) (hb1.grown hg2 hb1.size (by simp))
  · refine lit1 oneInt (B := w.heap.size) (by omega) (One.int _) ?_
    intro r w1 hr hg1 _
    have hb1 := hbd.grown hg1 hbd.size (by simp)
    refine lit0 oneInt (B := w.heap.size) hb1.size ?_
    intro t w2 ht hg2 hc2
    exact fin w2 t r ht (hr.kept hg2 (by simp)) (fun g e1 _ => by simp [Sl.blk, hc2] at e1) (hb1.grown hg2 hb1.size (by simp))

def ChildOk (L : List Int) (i : Int) : Prop := IsP L ∧ L.length < 8 ∧ 0 ≤ i ∧ i ≤ L.length
open Classical in
noncomputable def ChildAtV (L : List Int) (i : Int) : List Int := if ChildOk L i then childW L i.toNat else []
open Classical in
noncomputable def ChildAtV1 (L : List Int) (i : Int) : Bool := decide (ChildOk L i)
theorem ChildAtV_len (L : List Int) (i : Int) : (ChildAtV L i).length < 2^38 := by
  unfold ChildAtV
  split
  · rename_i h
    obtain ⟨h1, h2, h3, h4⟩ := h
    rw [childW_length (by omega)]; omega
  · simp
end Go.Proofs.Ytmhgjfahgemblaa

/- Active sites and children: what the laws of labels want. -/
namespace Go.Proofs.Ytmhgjfahgemblaa
open Go Go.RowKit
set_option maxRecDepth 100000

def sitesT (LL : List (List Int)) (P : List Int) : Nat → List Int
  | 0 => []
  | k + 1 => if avoidsV LL (childW P k) = true then sitesT LL P k ++ [(k : Int)] else sitesT LL P k
def sitesV (LL : List (List Int)) (P : List Int) : List Int := sitesT LL P (P.length + 1)
theorem sitesT_len (LL : List (List Int)) (P : List Int) : ∀ k, (sitesT LL P k).length ≤ k
  | 0 => by simp [sitesT]
  | k + 1 => by
    have := sitesT_len LL P k
    rw [sitesT]
    split
    · simp; omega
    · omega
theorem sitesT_mem {LL : List (List Int)} {P : List Int} : ∀ {k : Nat} {x : Int}, x ∈ sitesT LL P k → 0 ≤ x ∧ x < k ∧ avoidsV LL (childW P x.toNat) = true
  | 0, x, h => by simp [sitesT] at h
  | k + 1, x, h => by
    rw [sitesT] at h
    split at h
    · rename_i h2
      rcases List.mem_append.1 h with h | h
      · obtain ⟨a, b, c⟩ := sitesT_mem h; exact ⟨a, by omega, c⟩
      · simp at h; subst h; exact ⟨by omega, by omega, by simpa using h2⟩
    · obtain ⟨a, b, c⟩ := sitesT_mem h; exact ⟨a, by omega, c⟩
def childrenV (LL : List (List Int)) (P : List Int) : List (List Int) := (sitesV LL P).map fun i => childW P i.toNat
theorem childW_isP {P : List Int} (h : IsP P) (h7 : P.length ≤ 7) {i : Nat} (hi : i ≤ P.length) : IsP (childW P i) := by
  refine isP_of (n := P.length + 1) ?_ (by omega)
  rw [idn_succ, childW]
  have h1 : (P.take i ++ ((P.length : Int) + 1) :: P.drop i).Perm (((P.length : Int) + 1) :: (P.take i ++ P.drop i)) := List.perm_middle
  rw [List.take_append_drop] at h1
  exact h1.trans ((List.Perm.cons _ h.perm).trans (List.perm_append_singleton _ _).symm)

theorem c_active {w : World} {l p : Sl} {LL : List (List Int)} {P : List Int} (hl : RowSS w l LL) (hB : BasisOk LL) (hp : RowI w p P) (hP : P.length ≤ 7) :
    Calls PP F.impl_active #[l.v, p.v] w fun e w' => ∃ s : Sl, e = .returned s.v ∧ OwnI w' w.heap.size s (sitesV LL P) ∧ Below w.heap.size w w' := by
  have hpn : p.n = P.length := by have := hp.n; simpa using this
  have hl8 := hB.1
  refine impl_active.calls l p ?_
  rw [impl_active.E_s, hpn, w64_succ (n := (P.length : Int)) (by omega) (by omega)]
  refine lit0 oneInt (B := w.heap.size) (Nat.le_refl _) ?_
  intro o0 w1 ho0 hg1 _
  refine impl_active.L3_rule _ _ _ _ _ _ _ (I := fun o k w' => 0 ≤ k ∧ k ≤ P.length + 1 ∧ OwnI w' w.heap.size o (sitesT LL P k.toNat) ∧ Below w.heap.size w w') (μ := fun _ k _ => (P.length + 1 - k).toNat) ⟨by omega, by omega, ho0, below_of_grow hg1⟩ ?_
  rintro o k w' ⟨h0, hk, ho, hb⟩
  rw [impl_active.B3_s]
  have hsl := sitesT_len LL P k.toNat
  refine bif_dec (fun h3 => ?_) (fun h3 => ?_)
  · obtain ⟨m, rfl⟩ : ∃ m : Nat, k = m := ⟨k.toNat, by omega⟩
    rw [Int.toNat_natCast] at ho hsl
    refine (c_child (hp.grow hb) (by omega) (i := m) (by omega)).mono ?_
    rintro e w2 ⟨c, rfl, hc, hb2⟩
    refine ⟨c, rfl, ?_⟩
    have hb12 := hb.trans (hb2.mono hb.size)
    refine (c_avoids (hl.grow hb12) hc.row (by rw [childW_length (by omega)]; omega) (by omega) (fun q hq => by have := hB.len q hq; omega)).mono ?_
    rintro e w3 ⟨rfl, hb3⟩
    refine ⟨_, rfl, ?_⟩
    have hb13 := hb12.trans (hb3.mono hb12.size)
    have ho3 := (ho.grow hb2).grow hb3
    have hsc : ((m : Int) + 1).toNat = m + 1 := by omega
    refine bif_intro (fun h4 => ?_) (fun h4 => ?_)
    · refine append_int ho3 hb13.size (by omega) ?_
      intro o' w4 ho4 hg4 _
      refine ⟨o', (m : Int) + 1, by rw [w64_succ h0 (by omega)], ⟨by omega, by omega, ?_, hb13.grown hg4 hb13.size (fun g hg => (ho3.lt g hg).1)⟩, by omega⟩
      rw [hsc, sitesT, if_pos h4]; exact ho4
    · refine ⟨o, (m : Int) + 1, by rw [w64_succ h0 (by omega)], ⟨by omega, by omega, ?_, hb13⟩, by omega⟩
      rw [hsc, sitesT, if_neg (by simp [h4])]; exact ho3
  · rw [impl_active.A3_0_s]
    rw [show k.toNat = P.length + 1 by omega] at ho
    exact ⟨o, rfl, ho, hb⟩
theorem c_l14Sites {w : World} {l p : Sl} {LL : List (List Int)} {P : List Int} (hl : RowSS w l LL) (hB : BasisOk LL) (hp : RowI w p P) (hP : P.length ≤ 7) :
    Calls PP F.spec_l14Sites #[l.v, p.v] w fun e w' => ∃ s : Sl, e = .returned s.v ∧ OwnI w' w.heap.size s (sitesV LL P) ∧ Below w.heap.size w w' := by
  have hpn : p.n = P.length := by have := hp.n; simpa using this
  have hl8 := hB.1
  refine spec_l14Sites.calls l p ?_
  rw [spec_l14Sites.E_s]
  refine lit0 oneInt (B := w.heap.size) (Nat.le_refl _) ?_
  intro o0 w1 ho0 hg1 _
  refine spec_l14Sites.L3_rule _ _ _ _ _ _ (I := fun o k w' => 0 ≤ k ∧ k ≤ P.length + 1 ∧ OwnI w' w.heap.size o (sitesT LL P k.toNat) ∧ Below w.heap.size w w') (μ := fun _ k _ => (P.length + 1 - k).toNat) ⟨by omega, by omega, ho0, below_of_grow hg1⟩ ?_
  rintro o k w' ⟨h0, hk, ho, hb⟩
  rw [spec_l14Sites.B3_s, hpn]
  have hsl := sitesT_len LL P k.toNat
  refine bif_dec (fun h3 => ?_) (fun h3 => ?_)
  · obtain ⟨m, rfl⟩ : ∃ m : Nat, k = m := ⟨k.toNat, by omega⟩
    rw [Int.toNat_natCast] at ho hsl
    refine (c_l14Child (hp.grow hb) (by omega) (i := m) (by omega)).mono ?_
    rintro e w2 ⟨c, rfl, hc, hb2⟩
    refine ⟨c, rfl, ?_⟩
    have hb12 := hb.trans (hb2.mono hb.size)
    refine (c_l12Avoids (hl.grow hb12) hc.row (by rw [childW_length (by omega)]; omega) (by omega) hB.len).mono ?_
    rintro e w3 ⟨rfl, hb3⟩
    refine ⟨_, rfl, ?_⟩
    have hb13 := hb12.trans (hb3.mono hb12.size)
    have ho3 := (ho.grow hb2).grow hb3
    have hsc : ((m : Int) + 1).toNat = m + 1 := by omega
    refine bif_intro (fun h4 => ?_) (fun h4 => ?_)
    · refine append_int ho3 hb13.size (by omega) ?_
      intro o' w4 ho4 hg4 _
      refine ⟨o', (m : Int) + 1, by rw [w64_succ h0 (by omega)], ⟨by omega, by omega, ?_, hb13.grown hg4 hb13.size (fun g hg => (ho3.lt g hg).1)⟩, by omega⟩
      rw [hsc, sitesT, if_pos h4]; exact ho4
    · refine ⟨o, (m : Int) + 1, by rw [w64_succ h0 (by omega)], ⟨by omega, by omega, ?_, hb13⟩, by omega⟩
      rw [hsc, sitesT, if_neg (by simp [h4])]; exact ho3
  · rw [spec_l14Sites.A3_0_s]
    rw [show k.toNat = P.length + 1 by omega] at ho
    exact ⟨o, rfl, ho, hb⟩

/-! ### children -/
theorem c_children {w : World} {l p : Sl} {LL : List (List Int)} {P : List Int} (hl : RowSS w l LL) (hB : BasisOk LL) (hp : RowI w p P) (hP : P.length ≤ 7) :
    Calls PP F.impl_children #[l.v, p.v] w fun e w' => ∃ s : Sl, e = .returned s.v ∧ OwnSS w' w.heap.size s (childrenV LL P) ∧ Below w.heap.size w w' := by
  refine impl_children.calls l p ?_
  rw [impl_children.E_s]
  refine lit0 oneSint (B := w.heap.size) (Nat.le_refl _) ?_
  intro o0 w1 ho0 hg1 _
  have hb1 := below_of_grow hg1
  refine (c_active (hl.grow hb1) hB (hp.grow hb1) hP).mono ?_
  rintro e w2 ⟨t, rfl, ht, hb12⟩
  refine ⟨t, rfl, ?_⟩
  have hb2 := hb1.trans (hb12.mono hb1.size)
  have htn : t.n = (sitesV LL P).length := by have := ht.n; simpa using this
  have hsl := sitesT_len LL P (P.length + 1)
  show impl_children.L3 std p o0 t (t.n : Int) 0 w2 _
  rw [htn]
  refine impl_children.L3_rule _ _ _ _ _ _ _ (I := fun o k w' => 0 ≤ k ∧ k ≤ (sitesV LL P).length ∧ Below w.heap.size w w' ∧ OwnI w' w1.heap.size t (sitesV LL P) ∧ OwnSS w' w.heap.size o (((sitesV LL P).take k.toNat).map fun i => childW P i.toNat)) (μ := fun _ k _ => ((sitesV LL P).length - k).toNat)
    ⟨by omega, by omega, hb2, ht, (OwnSS.nil ho0).grow hb12⟩ ?_
  rintro o k w' ⟨h0, hk, hb, htr, ho⟩
  rw [impl_children.B3_s]
  refine bif_dec (fun h3 => ?_) (fun h3 => ?_)
  · have hlt : k.toNat < (sitesV LL P).length := by omega
    refine RowI.get htr.row h0 (by omega) ?_
    rw [getD_lt hlt]
    have hm := sitesT_mem (List.getElem_mem hlt)
    obtain ⟨m, hm2⟩ : ∃ m : Nat, (sitesV LL P)[k.toNat] = m := ⟨(sitesV LL P)[k.toNat].toNat, by omega⟩
    rw [hm2] at hm ⊢
    refine (c_child (hp.grow hb) (by omega) (i := m) (by omega)).mono ?_
    rintro e w3 ⟨c, rfl, hc, hb3⟩
    refine ⟨c, rfl, ?_⟩
    have hb13 := hb.trans (hb3.mono hb.size)
    have hsl2 : (sitesV LL P).length ≤ 9 := Nat.le_trans hsl (by omega)
    refine append_new ho hb3 hb.size hc (by simp; omega) ?_
    intro o' w4 ho4 hg4 hn4
    refine ⟨o', k + 1, by rw [w64_succ h0 (by omega)], ⟨by omega, by omega, hb13.grown hg4 hb13.size (fun g hg => (ho.lt g hg).1), ?_, ?_⟩, by omega⟩
    · obtain ⟨rs, ho'⟩ := ho
      have htr3 := htr.grow hb3
      exact htr3.kept hg4 fun g e1 e2 => ((ho'.grow hb3).out.apt htr3 (by decide)) g e2 e1
    · rw [show (k + 1).toNat = k.toNat + 1 by omega, List.take_succ_eq_append_getElem hlt, List.map_append, hm2]
      exact ho4
  · rw [impl_children.A3_0_s]
    rw [show k.toNat = (sitesV LL P).length by omega, List.take_length] at ho
    exact ⟨o, rfl, ho, hb⟩
open Classical in
noncomputable def ActiveSitesV (LL : List (List Int)) (P : List Int) : List Int := if InCl LL P ∧ P.length < 8 then sitesV LL P else []
theorem ActiveSitesV_len (LL : List (List Int)) (P : List Int) : (ActiveSitesV LL P).length < 2^38 := by
  unfold ActiveSitesV
  split
  · rename_i h; have := sitesT_len LL P (P.length + 1); rw [sitesV]; omega
  · simp
open Classical in
theorem c_specActiveSites0 {w : World} {l p : Sl} {LL : List (List Int)} {P : List Int} (hl : RowSS w l LL) (hL : LL.length < 2^38) (ht : tot LL < 2^37) (hp : RowI w p P) (hP : P.length < 2^37) :
    Calls PP F.spec_ActiveSites #[l.v, p.v] w fun e w' => ∃ s : Sl, e = .returned s.v ∧ OwnI w' w.heap.size s (ActiveSitesV LL P) ∧ Below w.heap.size w w' := by
  have hpn : p.n = P.length := by have := hp.n; simpa using this
  refine spec_ActiveSites.calls l p ?_
  rw [spec_ActiveSites.E_s, hpn]
  refine (c_specInClass hl hL ht hp hP).mono ?_
  rintro e w1 ⟨rfl, hb1⟩
  refine ⟨_, rfl, ?_⟩
  have no : ¬ (InCl LL P ∧ P.length < 8) → sem1 .sl PP (Instr.buildSlice T_Sint 0 #[]) w1 fun (ρ : Sl) w2 => ∃ s : Sl, (Ending.returned ρ.v) = .returned s.v ∧ OwnI w2 w.heap.size s (ActiveSitesV LL P) ∧ Below w.heap.size w w2 := fun hn => by
    refine lit0 oneInt (B := w.heap.size) hb1.size ?_
    intro s w2 hs hg _
    exact ⟨s, rfl, by rw [ActiveSitesV, if_neg hn]; exact hs, hb1.grown hg hb1.size (by simp)⟩
  refine bif_intro (fun h => ?_) (fun h => ?_)
  · have h : ¬ InCl LL P := by simpa [InClassV] using h
    exact no fun hh => h hh.1
  have h : InCl LL P := by simpa [InClassV] using h
  have h8 := h.2.1.1
  refine bif_intro (fun h2 => ?_) (fun h2 => ?_)
  · have h2 : (P.length : Int) = 8 := by simpa using h2
    exact no fun hh => by omega
  have h2 : (P.length : Int) ≠ 8 := by simpa using h2
  refine (c_l14Sites (hl.grow hb1) h.1 (hp.grow hb1) (by omega)).mono ?_
  rintro e w2 ⟨s, rfl, hs, hb2⟩
  exact ⟨s, rfl, s, rfl, by rw [ActiveSitesV, if_pos ⟨h, by omega⟩]; exact hs.mono hb1.size, hb1.trans (hb2.mono hb1.size)⟩
theorem c_specActiveSites {w : World} {l p : Sl} {LL : List (List Int)} {P : List Int} (hl : RowSS w l LL) (hL : LL.length < 2^38) (ht : tot LL < 2^37) (hp : RowI w p P) (hP : P.length < 2^37) :
    Calls PP F.spec_ActiveSites #[l.v, p.v] w fun e w' => ∃ s : Sl, e = .returned s.v ∧ RowI w' s (ActiveSitesV LL P) ∧ Below w.heap.size w w' :=
  (c_specActiveSites0 hl hL ht hp hP).mono fun e w' ⟨s, h1, h2, h3⟩ => ⟨s, h1, h2.row, h3⟩
/-! ### LabelOf -/
open Classical in
noncomputable def LabelOfV (LL : List (List Int)) (P : List Int) : Int := if InCl LL P ∧ P.length < 8 then ((sitesV LL P).length : Int) else -1
/-! ### ChildrenOf -/
open Classical in
noncomputable def ChildrenOfV (LL : List (List Int)) (P : List Int) : List (List Int) := if InCl LL P ∧ P.length < 8 then childrenV LL P else []
theorem childrenV_len (LL : List (List Int)) (P : List Int) : (childrenV LL P).length ≤ P.length + 1 := by
  rw [childrenV, List.length_map]; exact sitesT_len LL P (P.length + 1)
theorem childrenV_mem {LL : List (List Int)} {P q : List Int} (h : q ∈ childrenV LL P) : ∃ i : Nat, i ≤ P.length ∧ q = childW P i ∧ avoidsV LL q = true := by
  rw [childrenV, List.mem_map] at h
  obtain ⟨x, hx, rfl⟩ := h
  have := sitesT_mem hx
  exact ⟨x.toNat, by omega, rfl, this.2.2⟩
theorem tot_le_mul' {l : List (List Int)} {n : Nat} (h : ∀ p ∈ l, p.length ≤ n) : tot l ≤ l.length * n := by
  induction l with
  | nil => simp [tot]
  | cons x r ih =>
    have h1 := h x (by simp)
    have h2 := ih (fun p hp => h p (by simp [hp]))
    rw [tot_cons, List.length_cons, Nat.succ_mul]; omega
theorem ChildrenOfV_len (LL : List (List Int)) (P : List Int) : (ChildrenOfV LL P).length < 2^38 ∧ tot (ChildrenOfV LL P) < 2^38 := by
  unfold ChildrenOfV
  split
  · rename_i h
    have h1 := childrenV_len LL P
    have h2 : tot (childrenV LL P) ≤ (childrenV LL P).length * 9 := tot_le_mul' fun q hq => by
      obtain ⟨i, hi, rfl, _⟩ := childrenV_mem hq
      rw [childW_length hi]; omega
    omega
  · simp [tot]
theorem c_specChildrenOf0 {w : World} {l p : Sl} {LL : List (List Int)} {P : List Int} (hl : RowSS w l LL) (hL : LL.length < 2^38) (ht : tot LL < 2^37) (hp : RowI w p P) (hP : P.length < 2^37) :
    Calls PP F.spec_ChildrenOf #[l.v, p.v] w fun e w' => ∃ s : Sl, e = .returned s.v ∧ OwnSS w' w.heap.size s (ChildrenOfV LL P) ∧ Below w.heap.size w w' := by
  refine spec_ChildrenOf.calls l p ?_
  rw [spec_ChildrenOf.E_s]
  refine lit0 oneSint (B := w.heap.size) (Nat.le_refl _) ?_
  intro o0 w1 ho0 hg1 _
  have hb1 := below_of_grow hg1
  refine (c_specActiveSites0 (hl.grow hb1) hL ht (hp.grow hb1) hP).mono ?_
  rintro e w2 ⟨t, rfl, htr0, hb12⟩
  refine ⟨t, rfl, ?_⟩
  have hb2 := hb1.trans (hb12.mono hb1.size)
  have htn : t.n = (ActiveSitesV LL P).length := by have := htr0.n; simpa using this
  have hV : ChildrenOfV LL P = (ActiveSitesV LL P).map fun i => childW P i.toNat := by
    unfold ChildrenOfV ActiveSitesV
    split <;> simp [childrenV]
  have hmem : ∀ x ∈ ActiveSitesV LL P, P.length < 8 ∧ 0 ≤ x ∧ x < ((P.length + 1 : Nat) : Int) := fun x hx => by
    unfold ActiveSitesV at hx
    split at hx
    · rename_i h; have := sitesT_mem hx; exact ⟨h.2, this.1, this.2.1⟩
    · simp at hx
  have hlen9 : (ActiveSitesV LL P).length ≤ 9 := by
    unfold ActiveSitesV
    split
    · rename_i h; have := sitesT_len LL P (P.length + 1); rw [sitesV]; omega
    · simp
  refine spec_ChildrenOf.L4_rule _ _ _ _ _ _ (I := fun o k w' => 0 ≤ k ∧ k ≤ (ActiveSitesV LL P).length ∧ Below w.heap.size w w' ∧ OwnI w' w1.heap.size t (ActiveSitesV LL P) ∧ OwnSS w' w.heap.size o (((ActiveSitesV LL P).take k.toNat).map fun i => childW P i.toNat)) (μ := fun _ k _ => ((ActiveSitesV LL P).length - k).toNat)
    ⟨by omega, by omega, hb2, htr0, (OwnSS.nil ho0).grow hb12⟩ ?_
  rintro o k w' ⟨h0, hk, hb, htr, ho⟩
  rw [spec_ChildrenOf.B4_s, htn]
  refine bif_dec (fun h3 => ?_) (fun h3 => ?_)
  · have hlt : k.toNat < (ActiveSitesV LL P).length := by omega
    refine RowI.get htr.row h0 (by omega) ?_
    rw [getD_lt hlt]
    have hm := hmem _ (List.getElem_mem hlt)
    obtain ⟨m, hm2⟩ : ∃ m : Nat, (ActiveSitesV LL P)[k.toNat] = m := ⟨(ActiveSitesV LL P)[k.toNat].toNat, by omega⟩
    rw [hm2] at hm ⊢
    refine (c_l14Child (hp.grow hb) (by omega) (i := m) (by omega)).mono ?_
    rintro e w3 ⟨c, rfl, hc, hb3⟩
    refine ⟨c, rfl, ?_⟩
    have hb13 := hb.trans (hb3.mono hb.size)
    refine append_new ho hb3 hb.size hc (by simp; omega) ?_
    intro o' w4 ho4 hg4 hn4
    refine ⟨o', k + 1, by rw [w64_succ h0 (by omega)], ⟨by omega, by omega, hb13.grown hg4 hb13.size (fun g hg => (ho.lt g hg).1), ?_, ?_⟩, by omega⟩
    · obtain ⟨rs, ho'⟩ := ho
      have htr3 := htr.grow hb3
      exact htr3.kept hg4 fun g e1 e2 => ((ho'.grow hb3).out.apt htr3 (by decide)) g e2 e1
    · rw [show (k + 1).toNat = k.toNat + 1 by omega, List.take_succ_eq_append_getElem hlt, List.map_append, hm2]
      exact ho4
  · rw [spec_ChildrenOf.A4_0_s]
    rw [show k.toNat = (ActiveSitesV LL P).length by omega, List.take_length] at ho
    exact ⟨o, rfl, by rw [hV]; exact ho, hb⟩
theorem c_specChildrenOf {w : World} {l p : Sl} {LL : List (List Int)} {P : List Int} (hl : RowSS w l LL) (hL : LL.length < 2^38) (ht : tot LL < 2^37) (hp : RowI w p P) (hP : P.length < 2^37) :
    Calls PP F.spec_ChildrenOf #[l.v, p.v] w fun e w' => ∃ s : Sl, e = .returned s.v ∧ RowSS w' s (ChildrenOfV LL P) ∧ Below w.heap.size w w' :=
  (c_specChildrenOf0 hl hL ht hp hP).mono fun e w' ⟨s, h1, h2, h3⟩ => ⟨s, h1, h2.row, h3⟩
end Go.Proofs.Ytmhgjfahgemblaa

/- ChildLabels, LabelsAt: both texts, and the laws. -/
namespace Go.Proofs.Ytmhgjfahgemblaa
open Go Go.RowKit
set_option maxRecDepth 100000

def siteN (LL : List (List Int)) (p : List Int) : Int := ((sitesV LL p).length : Int)
def labsV (LL : List (List Int)) (PS : List (List Int)) : List Int := sortI (PS.map (siteN LL))
theorem c_six {n : Int} {K : Bool → Prop} (hk : K (decide (0 ≤ n) && decide (n ≤ 6))) : pcall1 .bool PP F.impl_isSix #[vI n] K := Pure.pcall1 (s := .bool) (c_isSix' n) hk
theorem c_labels {w : World} {l ps : Sl} {LL PS : List (List Int)} (hl : RowSS w l LL) (hB : BasisOk LL) (hps : RowSS w ps PS) (hlen : ∀ p ∈ PS, p.length ≤ 7) (hc : PS.length ≤ 46656) :
    Calls PP F.impl_labels #[l.v, ps.v] w fun e w' => ∃ s : Sl, e = .returned s.v ∧ OwnI w' w.heap.size s (labsV LL PS) ∧ Below w.heap.size w w' := by
  have hpn := hps.n
  refine impl_labels.calls l ps ?_
  rw [impl_labels.E_s]
  refine lit0 oneInt (B := w.heap.size) (Nat.le_refl _) ?_
  intro o w1 ho hg1 _
  have hb1 := below_of_grow hg1
  rw [hpn]
  refine impl_labels.L3_rule _ _ _ _ _ _ _ (I := fun o i w' => 0 ≤ i ∧ i ≤ PS.length ∧ Below w.heap.size w w' ∧ OwnI w' w.heap.size o ((PS.take i.toNat).map (siteN LL))) (μ := fun _ i _ => (PS.length - i).toNat)
    ⟨by omega, by omega, hb1, by simpa [OwnI] using ho⟩ ?_
  rintro o i w' ⟨hi0, hi, hb, ho⟩
  rw [impl_labels.B3_s]
  refine bif_dec (fun h3 => ?_) (fun h3 => ?_)
  · have hlt : i.toNat < PS.length := by omega
    refine RowSS.get (hps.grow hb) hi0 (by omega) fun r hr => ?_
    rw [getD_SS hlt] at hr
    refine (c_active (hl.grow hb) hB hr (hlen _ (List.getElem_mem hlt))).mono ?_
    rintro e w3 ⟨u, rfl, hu, hb3⟩
    refine ⟨u, rfl, ?_⟩
    have hun : (u.n : Int) = siteN LL PS[i.toNat] := by have := hu.n; rw [List.length_map] at this; rw [siteN, this]
    simp only [hun]
    have hb13 := hb.trans (hb3.mono hb.size)
    have ho3 := Own.grow ho hb3
    refine append_int ho3 hb13.size (by rw [List.length_map, List.length_take]; omega) ?_
    intro o' w4 ho4 hg4 _
    refine ⟨o', i + 1, by rw [w64_succ hi0 (by omega)], ⟨by omega, by omega, hb13.grown hg4 hb13.size (fun g hg => (ho3.lt g hg).1), ?_⟩, by omega⟩
    rw [show (i + 1).toNat = i.toNat + 1 by omega, List.take_succ_eq_append_getElem hlt, List.map_append]
    exact ho4
  · rw [impl_labels.A3_0_s]
    rw [show i.toNat = PS.length by omega, List.take_length] at ho
    refine c_Sort ho (by rw [List.length_map]; omega) fun w3 ho3 hg3 => ?_
    exact ⟨o, rfl, ho3, hb.grown hg3 hb.size (fun g hg => (ho.lt g hg).1)⟩
/-! ### ChildLabels -/
open Classical in
noncomputable def ChildLabelsV (LL : List (List Int)) (P : List Int) : List Int := if InCl LL P ∧ P.length ≤ 6 then labsV LL (childrenV LL P) else []
theorem labsV_length (LL PS : List (List Int)) : (labsV LL PS).length = PS.length := by rw [labsV, sortI_length, List.length_map]
theorem ChildLabelsV_len (LL : List (List Int)) (P : List Int) : (ChildLabelsV LL P).length < 2^38 := by
  unfold ChildLabelsV
  split
  · rename_i h
    have := childrenV_len LL P
    rw [labsV_length]; omega
  · simp
theorem c_specChildLabels {w : World} {l p : Sl} {LL : List (List Int)} {P : List Int} (hl : RowSS w l LL) (hL : LL.length < 2^38) (ht : tot LL < 2^37) (hp : RowI w p P) (hP : P.length < 2^37) :
    Calls PP F.spec_ChildLabels #[l.v, p.v] w fun e w' => ∃ s : Sl, e = .returned s.v ∧ RowI w' s (ChildLabelsV LL P) ∧ Below w.heap.size w w' := by
  have hpn : p.n = P.length := by have := hp.n; simpa using this
  refine spec_ChildLabels.calls l p ?_
  rw [spec_ChildLabels.E_s, hpn]
  refine lit0 oneInt (B := w.heap.size) (Nat.le_refl _) ?_
  intro o w1 ho hg1 hoc
  have hb1 := below_of_grow hg1
  refine bif_dec (fun h => ?_) (fun h6 => ?_)
  · exact ⟨o, rfl, by rw [ChildLabelsV, if_neg (fun hh => by have := hh.2; omega)]; exact ho.row, hb1⟩
  refine (c_specChildrenOf0 (hl.grow hb1) hL ht (hp.grow hb1) hP).mono ?_
  rintro e w2 ⟨t, rfl, hto, hb12⟩
  refine ⟨t, rfl, ?_⟩
  have hb2 := hb1.trans (hb12.mono hb1.size)
  have ho2 : OwnI w2 w2.heap.size o [] := ⟨ho.n, ho.nc, ho.cm, .inl hoc⟩
  have htn := hto.row.n
  have htr := hto.row
  have hmem : ∀ q ∈ ChildrenOfV LL P, BasisOk LL ∧ q.length ≤ 7 := fun q hq => by
    unfold ChildrenOfV at hq
    split at hq
    · rename_i h
      obtain ⟨i, hi, rfl, _⟩ := childrenV_mem hq
      exact ⟨h.1.1, by rw [childW_length hi]; omega⟩
    · simp at hq
  have hlen : (ChildrenOfV LL P).length ≤ 9 := by
    unfold ChildrenOfV
    split
    · have := childrenV_len LL P; omega
    · simp
  have hV : ChildLabelsV LL P = labsV LL (ChildrenOfV LL P) := by
    unfold ChildLabelsV ChildrenOfV
    by_cases h : InCl LL P
    · rw [if_pos ⟨h, by omega⟩, if_pos ⟨h, by omega⟩]
    · rw [if_neg (fun hh => h hh.1), if_neg (fun hh => h hh.1)]; simp [labsV, sortI]
  rw [hV]
  refine spec_ChildLabels.L6_rule _ _ _ _ _ _ (I := fun o i w' => 0 ≤ i ∧ i ≤ (ChildrenOfV LL P).length ∧ Below w2.heap.size w2 w' ∧ OwnI w' w2.heap.size o (((ChildrenOfV LL P).take i.toNat).map (siteN LL))) (μ := fun _ i _ => ((ChildrenOfV LL P).length - i).toNat)
    ⟨by omega, by omega, Below.refl _ _, by simpa [OwnI] using ho2⟩ ?_
  rintro o i w' ⟨hi0, hi, hb, ho⟩
  rw [spec_ChildLabels.B6_s, htn]
  have hbw := hb2.trans (hb.mono hb2.size)
  refine bif_dec (fun h3 => ?_) (fun h3 => ?_)
  · have hlt : i.toNat < (ChildrenOfV LL P).length := by omega
    refine RowSS.get (htr.grow hb) hi0 (by omega) fun r hr => ?_
    rw [getD_SS hlt] at hr
    obtain ⟨hB, hq7⟩ := hmem _ (List.getElem_mem hlt)
    refine (c_l14Sites (hl.grow hbw) hB hr hq7).mono ?_
    rintro e w3 ⟨u, rfl, hu, hb3⟩
    refine ⟨u, rfl, ?_⟩
    have hun : (u.n : Int) = siteN LL (ChildrenOfV LL P)[i.toNat] := by have := hu.n; rw [List.length_map] at this; rw [siteN, this]
    simp only [hun]
    have hb13 := hb.trans (hb3.mono hb.size)
    have ho3 := Own.grow ho hb3
    refine append_int ho3 hb13.size (by rw [List.length_map, List.length_take]; omega) ?_
    intro o' w4 ho4 hg4 _
    refine ⟨o', i + 1, by rw [w64_succ hi0 (by omega)], ⟨by omega, by omega, hb13.grown hg4 hb13.size (fun g hg => (ho3.lt g hg).1), ?_⟩, by omega⟩
    rw [show (i + 1).toNat = i.toNat + 1 by omega, List.take_succ_eq_append_getElem hlt, List.map_append]
    exact ho4
  · rw [spec_ChildLabels.A6_0_s]
    rw [show i.toNat = (ChildrenOfV LL P).length by omega, List.take_length] at ho
    refine (c_l15Sort ho.row (by rw [List.length_map]; omega)).mono ?_
    rintro e w3 ⟨s, rfl, hs, hb3⟩
    exact ⟨s, rfl, s, rfl, hs.row, hbw.trans (hb3.mono hbw.size)⟩
end Go.Proofs.Ytmhgjfahgemblaa

/- Rules told by labels: plain facts. -/
namespace Go.Proofs.Ytmhgjfahgemblaa
open Go Go.RowKit
set_option maxRecDepth 100000

def hd (x : List Int) : Int := x.getD 0 0
def Str (R : List (List Int)) : Prop := R.Pairwise fun a b => hd a < hd b
theorem str_unique {A B : List (List Int)} (hA : Str A) (hB : Str B) (h : ∀ z, z ∈ A ↔ z ∈ B) : A = B := by
  have nA : A.Nodup := hA.imp fun h e => by rw [e] at h; exact Int.lt_irrefl _ h
  have nB : B.Nodup := hB.imp fun h e => by rw [e] at h; exact Int.lt_irrefl _ h
  exact List.Perm.eq_of_pairwise (le := fun a b => hd a < hd b) (fun a b _ _ h1 h2 => absurd (Int.lt_trans h1 h2) (Int.lt_irrefl _)) hA hB ((List.perm_ext_iff_of_nodup nA nB).2 h)
theorem str_one {R : List (List Int)} (h : Str R) {x y : List Int} (hx : x ∈ R) (hy : y ∈ R) (he : hd x = hd y) : x = y := by
  induction R with
  | nil => cases hx
  | cons a R ih =>
    have h1 := List.pairwise_cons.1 h
    rcases List.mem_cons.1 hx with rfl | hx
    · rcases List.mem_cons.1 hy with rfl | hy
      · rfl
      · have := h1.1 y hy; omega
    · rcases List.mem_cons.1 hy with e | hy
      · have := h1.1 x hx; rw [e] at he; omega
      · exact ih h1.2 hx hy
theorem str_idx {R : List (List Int)} (h : Str R) {i j : Nat} (hij : i < j) (hj : j < R.length) : hd (R.getD i []) < hd (R.getD j []) := by
  have := List.pairwise_iff_getElem.1 h i j (by omega) hj hij
  rw [getD_SS (by omega), getD_SS hj]; exact this
def insR (R : List (List Int)) (X : List Int) (k : Nat) : List (List Int) := R.take k ++ [X] ++ R.drop k
theorem insR_mem {R : List (List Int)} {X Z : List Int} {k : Nat} : Z ∈ insR R X k ↔ Z ∈ R ∨ Z = X := by
  have : R = R.take k ++ R.drop k := (List.take_append_drop k R).symm
  unfold insR
  constructor
  · intro h
    simp only [List.mem_append, List.mem_singleton] at h
    rcases h with (h | h) | h
    · exact .inl (List.mem_of_mem_take h)
    · exact .inr h
    · exact .inl (List.mem_of_mem_drop h)
  · rintro (h | rfl)
    · rw [this] at h
      rcases List.mem_append.1 h with h | h
      · simp [h]
      · simp [h]
    · simp
theorem insR_str {R : List (List Int)} {X : List Int} {k : Nat} (h : Str R) (hk : k ≤ R.length) (h1 : ∀ j, k ≤ j → j < R.length → hd X < hd (R.getD j [])) (h2 : k = 0 ∨ hd (R.getD (k - 1) []) < hd X) : Str (insR R X k) := by
  have hlo : ∀ a ∈ R.take k, hd a < hd X := fun a ha => by
    obtain ⟨i, hi, rfl⟩ := List.getElem_of_mem ha
    rw [List.length_take] at hi
    rw [List.getElem_take]
    have e : R[i]'(by omega) = R.getD i [] := (getD_SS (by omega)).symm
    rw [e]
    rcases h2 with h2 | h2
    · omega
    · by_cases hk1 : i = k - 1
      · rw [hk1]; exact h2
      · exact Int.lt_trans (str_idx h (by omega) (by omega)) h2
  have hhi : ∀ b ∈ R.drop k, hd X < hd b := fun b hb => by
    obtain ⟨i, hi, rfl⟩ := List.getElem_of_mem hb
    rw [List.length_drop] at hi
    rw [List.getElem_drop]
    have e : R[k + i]'(by omega) = R.getD (k + i) [] := (getD_SS (by omega)).symm
    rw [e]
    exact h1 (k + i) (by omega) (by omega)
  unfold insR Str
  rw [List.append_assoc, List.pairwise_append]
  refine ⟨List.Pairwise.sublist (List.take_sublist _ _) h, ?_, fun a ha b hb => ?_⟩
  · rw [List.singleton_append, List.pairwise_cons]
    exact ⟨hhi, List.Pairwise.sublist (List.drop_sublist _ _) h⟩
  · rw [List.singleton_append, List.mem_cons] at hb
    rcases hb with rfl | hb
    · exact hlo a ha
    · exact Int.lt_trans (hlo a ha) (hhi b hb)
/-! ### The lists' order -/
theorem lexC_self : ∀ a, lexC a a = 0
  | [] => rfl
  | x :: a => by rw [lexC, if_neg (by omega), if_neg (by omega), lexC_self a]
theorem lexC_swap : ∀ a b, lexC b a = - lexC a b
  | [], [] => rfl
  | [], _ :: _ => rfl
  | _ :: _, [] => rfl
  | x :: a, y :: b => by
    rw [lexC, lexC, lexC_swap a b]
    by_cases h1 : x < y
    · rw [if_neg (by omega), if_pos h1, if_pos h1]; rfl
    · by_cases h2 : y < x
      · rw [if_pos h2, if_neg h1, if_pos h2]
      · rw [if_neg h2, if_neg h1, if_neg h1, if_neg h2]
theorem lexC_zero : ∀ a b, lexC a b = 0 → a = b
  | [], [], _ => rfl
  | [], _ :: _, h => by simp [lexC] at h
  | _ :: _, [], h => by simp [lexC] at h
  | x :: a, y :: b, h => by
    rw [lexC] at h
    split at h
    · cases h
    · split at h
      · cases h
      · rw [lexC_zero a b h, show x = y by omega]
theorem lexC_trans : ∀ a b c, lexC a b < 0 → lexC b c < 0 → lexC a c < 0
  | [], [], _, h, _ => by simp [lexC] at h
  | [], _ :: _, [], _, h => by simp [lexC] at h
  | [], _ :: _, _ :: _, _, _ => by simp [lexC]
  | _ :: _, [], _, h, _ => by simp [lexC] at h
  | _ :: _, _ :: _, [], _, h => by simp [lexC] at h
  | x :: a, y :: b, z :: c, h1, h2 => by
    rw [lexC] at h1 h2 ⊢
    by_cases e1 : x < y
    · by_cases e2 : y < z
      · rw [if_pos (by omega)]; decide
      · by_cases e3 : z < y
        · rw [if_neg e2, if_pos e3] at h2; omega
        · rw [if_pos (by omega)]; decide
    · by_cases e2 : y < x
      · rw [if_neg e1, if_pos e2] at h1; omega
      · rw [if_neg e1, if_neg e2] at h1
        by_cases e3 : y < z
        · rw [if_pos (by omega)]; decide
        · by_cases e4 : z < y
          · rw [if_neg e3, if_pos e4] at h2; omega
          · rw [if_neg e3, if_neg e4] at h2
            rw [if_neg (by omega), if_neg (by omega)]
            exact lexC_trans a b c h1 h2
theorem lexC_hd {x y : Int} {a b : List Int} (h : x ≠ y) : lexC (x :: a) (y :: b) < 0 ↔ x < y := by
  rw [lexC]
  by_cases h1 : x < y
  · rw [if_pos h1]; simp [h1]
  · rw [if_neg h1, if_pos (by omega)]; simp [h1]
/-! ### What a rule is made of -/
def ent (LL : List (List Int)) (p : List Int) : List Int := siteN LL p :: labsV LL (childrenV LL p)
def ents (LL : List (List Int)) (n : Nat) : List (List Int) := (List.range n).flatMap fun m => (classV LL m).map (ent LL)
theorem ents_succ (LL : List (List Int)) (n : Nat) : ents LL (n + 1) = ents LL n ++ (classV LL n).map (ent LL) := by
  simp [ents, List.range_succ, List.flatMap_append]
theorem hd_ent (LL : List (List Int)) (p : List Int) : hd (ent LL p) = siteN LL p := rfl
def Told (E R : List (List Int)) : Prop := Str R ∧ ∀ Z, Z ∈ R ↔ Z ∈ E
theorem not_told {E : List (List Int)} {x y : List Int} (hx : x ∈ E) (hy : y ∈ E) (he : hd x = hd y) (hne : x ≠ y) : ¬ ∃ R, Told E R := fun ⟨R, h1, h2⟩ => hne (str_one h1 ((h2 x).2 hx) ((h2 y).2 hy) he)
open Classical in
noncomputable def RuleUpToV1 (LL : List (List Int)) (n : Int) : Bool := decide (BasisOk LL ∧ 0 ≤ n ∧ n ≤ 5 ∧ ∃ R, Told (ents LL (n.toNat + 1)) R)
open Classical in
noncomputable def RuleUpToV (LL : List (List Int)) (n : Int) : List (List Int) := if h : BasisOk LL ∧ 0 ≤ n ∧ n ≤ 5 ∧ ∃ R, Told (ents LL (n.toNat + 1)) R then Classical.choose h.2.2.2 else []
open Classical in
theorem told_V {LL R : List (List Int)} {n : Int} (h1 : BasisOk LL) (h2 : 0 ≤ n) (h3 : n ≤ 5) (h : Told (ents LL (n.toNat + 1)) R) : RuleUpToV1 LL n = true ∧ RuleUpToV LL n = R := by
  have hh : BasisOk LL ∧ 0 ≤ n ∧ n ≤ 5 ∧ ∃ R, Told (ents LL (n.toNat + 1)) R := ⟨h1, h2, h3, R, h⟩
  refine ⟨decide_eq_true hh, ?_⟩
  rw [RuleUpToV, dif_pos hh]
  have hc := Classical.choose_spec hh.2.2.2
  exact str_unique hc.1 h.1 fun z => (hc.2 z).trans (h.2 z).symm
open Classical in
theorem told_no {LL : List (List Int)} {n : Int} (h : ¬ (BasisOk LL ∧ 0 ≤ n ∧ n ≤ 5 ∧ ∃ R, Told (ents LL (n.toNat + 1)) R)) : RuleUpToV1 LL n = false ∧ RuleUpToV LL n = [] := ⟨decide_eq_false h, by rw [RuleUpToV, dif_neg h]⟩
theorem ents_mem {LL : List (List Int)} {n : Nat} {Z : List Int} (h : Z ∈ ents LL n) : ∃ m p, m < n ∧ p ∈ classV LL m ∧ Z = ent LL p := by
  rw [ents, List.mem_flatMap] at h
  obtain ⟨m, hm, hZ⟩ := h
  obtain ⟨p, hp, rfl⟩ := List.mem_map.1 hZ
  exact ⟨m, p, List.mem_range.1 hm, hp, rfl⟩
theorem ents_mem_of {LL : List (List Int)} {n m : Nat} {p : List Int} (hm : m < n) (hp : p ∈ classV LL m) : ent LL p ∈ ents LL n := by
  rw [ents, List.mem_flatMap]
  exact ⟨m, List.mem_range.2 hm, List.mem_map.2 ⟨p, hp, rfl⟩⟩
theorem class_pl {LL : List (List Int)} {m : Nat} {p : List Int} (hp : p ∈ classV LL m) : p.length = m := permsV_len (classV_mem hp).1
theorem ent_facts {LL : List (List Int)} {n : Nat} (hn : n ≤ 6) {Z : List Int} (h : Z ∈ ents LL n) : 0 ≤ hd Z ∧ hd Z ≤ 6 ∧ Z.length ≤ 8 ∧ Z ≠ [] := by
  obtain ⟨m, p, hm, hp, rfl⟩ := ents_mem h
  have hl := class_pl hp
  have h1 := sitesT_len LL p (p.length + 1)
  have h2 := childrenV_len LL p
  rw [hd_ent]
  refine ⟨by simp [siteN], by simp only [siteN, sitesV]; omega, ?_, by simp [ent]⟩
  rw [ent, List.length_cons, labsV_length]; omega
theorem str_short {R : List (List Int)} (h : Str R) (h0 : ∀ z ∈ R, 0 ≤ hd z ∧ hd z ≤ 6) : R.length ≤ 7 := by
  have : ∀ i, i < R.length → (i : Int) ≤ hd (R.getD i []) := by
    intro i
    induction i with
    | zero => intro hi; rw [getD_SS hi]; exact (h0 _ (List.getElem_mem hi)).1
    | succ i ih =>
      intro hi
      have h1 := ih (by omega)
      have h2 := str_idx h (show i < i + 1 by omega) hi
      omega
  rcases Nat.lt_or_ge 7 R.length with h1 | h1
  · have h2 := this 7 h1
    rw [getD_SS h1] at h2
    have := (h0 _ (List.getElem_mem h1)).2
    omega
  · exact h1
theorem told_short {LL R : List (List Int)} {E : List (List Int)} {n : Nat} (hn : n ≤ 6) (hE : ∀ z ∈ E, z ∈ ents LL n) (h : Told E R) : R.length ≤ 7 := str_short h.1 fun z hz => by
  have := ent_facts hn (hE z ((h.2 z).1 hz)); exact ⟨this.1, this.2.1⟩
theorem RuleUpToV_len (LL : List (List Int)) (n : Int) : (RuleUpToV LL n).length < 2^38 ∧ tot (RuleUpToV LL n) < 2^38 := by
  by_cases h : BasisOk LL ∧ 0 ≤ n ∧ n ≤ 5 ∧ ∃ R, Told (ents LL (n.toNat + 1)) R
  · obtain ⟨h1, h2, h3, R, hR⟩ := h
    rw [(told_V h1 h2 h3 hR).2]
    have hs := told_short (n := n.toNat + 1) (by omega) (fun z hz => hz) hR
    have := tot_le_mul' (l := R) (n := 8) fun p hp => (ent_facts (n := n.toNat + 1) (by omega) ((hR.2 p).1 hp)).2.2.1
    omega
  · rw [(told_no h).2]; simp [tot]
end Go.Proofs.Ytmhgjfahgemblaa

/- A map whose keys are numbers and whose values are rows: looking up, storing, ranging. -/
namespace Go.Proofs.Ytmhgjfahgemblaa
open Go Go.RowKit
set_option maxRecDepth 100000

theorem u_mapI : PP.underlying T_Mint_Sint = some (.map T_int T_Sint) := by kernel_rfl
theorem u_intI : PP.underlying T_int = some (.int .i64) := by kernel_rfl
@[reducible] def EntI := Int × Sl × List Int
def rowE (t : EntI) : List Int := t.1 :: t.2.2
structure MapI (w : World) (B r : Nat) (T : List EntI) : Prop where
  obj : ∃ es clock, w.heap[r]? = some (.map es clock) ∧ es.toList.map (fun e => (e.key, e.val)) = T.map (fun t => (vI t.1, t.2.1.v)) ∧ (es.toList.map (·.born)).Nodup ∧ ∀ e ∈ es.toList, e.born < clock
  keys : (T.map (·.1)).Nodup
  own : ∀ t ∈ T, OwnI w B t.2.1 t.2.2
theorem MapI.lt {w B r T} (h : MapI w B r T) : r < w.heap.size := by
  obtain ⟨es, clock, hg, _⟩ := h.obj
  exact (Array.getElem?_eq_some_iff.1 hg).1
theorem MapI.keeps {S : Nat → Prop} {w w' B r T} (h : MapI w B r T) (hk : Keeps S w w') (hr : ¬ S r) (hS : ∀ t ∈ T, ∀ g, t.2.1.blk = some g → ¬ S g) : MapI w' B r T := by
  obtain ⟨es, clock, hg, h1, h2⟩ := h.obj
  exact ⟨⟨es, clock, by rw [hk.block r (Array.getElem?_eq_some_iff.1 hg).1 hr]; exact hg, h1, h2⟩, h.keys, fun t ht => (h.own t ht).keeps hk (hS t ht)⟩
theorem MapI.grow {w w' B r T} (h : MapI w B r T) (hb : Below w.heap.size w w') : MapI w' B r T :=
  h.keeps (S := fun _ => False) ((keeps_grown (grow_of_below hb)).mono fun _ e => (by cases e)) id fun _ _ _ _ => id
theorem MapI.heap {w w' B r T} (h : MapI w B r T) (hh : w'.heap = w.heap) : MapI w' B r T := by
  obtain ⟨es, clock, hg, h1, h2⟩ := h.obj
  exact ⟨⟨es, clock, by rw [hh]; exact hg, h1, h2⟩, h.keys, fun t ht => (h.own t ht).heap hh⟩
theorem find_int (a : Int) : ∀ (es : List MapEntry) (i : Nat), (∀ e ∈ es, ∃ k, e.key = vI k) →
    ∃ res, Instr.findNow (.int .i64) (vI a) es i = some res ∧ ((res = none ∧ ∀ e ∈ es, e.key ≠ vI a) ∨ ∃ j e, res = some (i + j, e.val) ∧ es[j]? = some e ∧ e.key = vI a)
  | [], i, _ => ⟨none, rfl, .inl ⟨rfl, fun e he => (by cases he)⟩⟩
  | e :: es, i, h => by
    obtain ⟨k, hk⟩ := h e (by simp)
    by_cases hak : a = k
    · subst hak
      refine ⟨some (i, e.val), ?_, .inr ⟨0, e, rfl, rfl, hk⟩⟩
      simp [Instr.findNow, hk, Instr.sameNow]
    · obtain ⟨res, h1, h2⟩ := find_int a es (i + 1) fun e' he' => h e' (by simp [he'])
      refine ⟨res, ?_, ?_⟩
      · simp only [Instr.findNow, hk, Instr.sameNow, if_true]
        have : (a == k) = false := by simpa using hak
        rw [this]
        exact h1
      · rcases h2 with ⟨h3, h4⟩ | ⟨j, e', h3, h4, h5⟩
        · refine .inl ⟨h3, fun e' he' => ?_⟩
          rcases List.mem_cons.1 he' with rfl | he'
          · rw [hk]; intro e; simp at e; exact hak e.symm
          · exact h4 e' he'
        · exact .inr ⟨j + 1, e', by rw [h3]; congr 2; omega, h4, h5⟩
theorem align_at {es : List MapEntry} {T : List EntI} (h : es.map (fun e => (e.key, e.val)) = T.map (fun t => (vI t.1, t.2.1.v))) {i : Nat} {e : MapEntry} (he : es[i]? = some e) : ∃ t, T[i]? = some t ∧ e.key = vI t.1 ∧ e.val = t.2.1.v := by
  have h1 : (es.map (fun e => (e.key, e.val)))[i]? = (T.map (fun t => (vI t.1, t.2.1.v)))[i]? := by rw [h]
  rw [List.getElem?_map, List.getElem?_map, he] at h1
  cases ht : T[i]? with
  | none => rw [ht] at h1; simp at h1
  | some t =>
    rw [ht] at h1
    simp at h1
    exact ⟨t, rfl, h1.1, h1.2⟩
theorem align_back {es : List MapEntry} {T : List EntI} (h : es.map (fun e => (e.key, e.val)) = T.map (fun t => (vI t.1, t.2.1.v))) {i : Nat} {t : EntI} (ht : T[i]? = some t) : ∃ e, es[i]? = some e ∧ e.key = vI t.1 ∧ e.val = t.2.1.v := by
  have h1 : (es.map (fun e => (e.key, e.val)))[i]? = (T.map (fun t => (vI t.1, t.2.1.v)))[i]? := by rw [h]
  rw [List.getElem?_map, List.getElem?_map, ht] at h1
  cases he : es[i]? with
  | none => rw [he] at h1; simp at h1
  | some e =>
    rw [he] at h1
    simp at h1
    exact ⟨e, rfl, h1.1, h1.2⟩
theorem key_int {es : List MapEntry} {T : List EntI} (h : es.map (fun e => (e.key, e.val)) = T.map (fun t => (vI t.1, t.2.1.v))) : ∀ e ∈ es, ∃ k, e.key = vI k := fun e he => by
  obtain ⟨i, hi, rfl⟩ := List.getElem_of_mem he
  obtain ⟨t, _, hk, _⟩ := align_at h (List.getElem?_eq_getElem hi)
  exact ⟨t.1, hk⟩
theorem vI_inj {a b : Int} (h : vI a = vI b) : a = b := by simpa using h
theorem check_I (e : Bool) (a : Int) (w : World) : (Instr.checkKey e 10000 T_int (vI a)).run PP w = .ok () w := by
  rw [show (10000 : Nat) = 9999 + 1 from rfl, Instr.checkKey]
  simp [run_underlying u_intI]
theorem zero_Sint (w : World) : (zeroValue T_Sint).run PP w = .ok (Sl.nil.v) w := by
  have : (PP.info? T_Sint).map (·.zero) = some (some (Sl.nil.v)) := by kernel_rfl
  cases hi : PP.info? T_Sint with
  | none => rw [hi] at this; cases this
  | some i =>
    rw [hi] at this
    simp at this
    simp [zeroValue, typeInfo, hi, this]
theorem lookI {w B r T} (h : MapI w B r T) (a : Int) {K : Sl → Bool → World → Prop} (h1 : ∀ t ∈ T, t.1 = a → K t.2.1 true w) (h2 : (∀ t ∈ T, t.1 ≠ a) → K Sl.nil false w) : sem2 .sl .bool PP (Instr.lookup T_Mint_Sint (.map (some r)) (vI a) true) w K := by
  obtain ⟨es, clock, hg, hal, _, _⟩ := h.obj
  obtain ⟨q, h3, h4⟩ := find_int a es.toList 0 (key_int hal)
  have hobj : (getObj r).run PP w = .ok (.map es clock) w := by simp [getObj, Sem.run, hg]
  have hfk : (Instr.findKey T_int (vI a) es.toList).run PP w = .ok q w := by
    simp only [Instr.findKey, Sem.run_bind, run_underlying u_intI, Result.andThen_ok, h3, Sem.run_pure]
  rcases h4 with ⟨rfl, h5⟩ | ⟨j, e, rfl, h5, h6⟩
  · refine ⟨Sl.nil, false, w, ?_, h2 fun t ht hta => ?_⟩
    · simp only [Instr.lookup, Sem.run_bind, run_underlying u_mapI, Result.andThen_ok, hobj, Sem.run_pure, check_I, hfk, zero_Sint]
      rfl
    · obtain ⟨i, hi, rfl⟩ := List.getElem_of_mem ht
      obtain ⟨e, he, hk, _⟩ := align_back hal (List.getElem?_eq_getElem hi)
      exact h5 e (List.mem_of_getElem? he) (by rw [hk, hta])
  · obtain ⟨t, ht, hk, hv⟩ := align_at hal h5
    refine ⟨t.2.1, true, w, ?_, h1 t (List.mem_of_getElem? ht) (vI_inj (by rw [← hk, h6]))⟩
    simp only [Instr.lookup, Sem.run_bind, run_underlying u_mapI, Result.andThen_ok, hobj, Sem.run_pure, check_I, hfk, hv]
    rfl
theorem set_mapI {w : World} {r : Nat} {es es' : Array MapEntry} {c c' : Nat} (hg : w.heap[r]? = some (.map es c)) : ∃ w', (setObj r (.map es' c')).run PP w = .ok () w' ∧ w'.heap[r]? = some (.map es' c') ∧ w.grownBy w' (some r) ∧ w'.heap.size = w.heap.size := by
  have hlt : r < w.heap.size := (Array.getElem?_eq_some_iff.1 hg).1
  refine ⟨{ w with heap := w.heap.setIfInBounds r (.map es' c') }, by simp [setObj, Sem.run, hg], ?_, ⟨rfl, rfl, rfl, by simp, fun k hk hne => ?_⟩, by simp⟩
  · simp [hlt]
  · simp only
    rw [Array.getElem?_setIfInBounds_ne]
    intro e; exact hne (by rw [e])
/-- A row's block is no map. -/
theorem own_ne_map {w B r es c e s vs} (h : Own w B e s vs) (hg : w.heap[r]? = some (.map es c)) : ∀ g, s.blk = some g → g ≠ r := fun g h1 h2 => by
  obtain ⟨cur, hc⟩ := h.heapAt h1
  rw [h2, hg] at hc
  cases hc
theorem putI {w B r T} (h : MapI w B r T) (a : Int) {x : Sl} {X : List Int} (hx : OwnI w B x X) (hsame : ∀ t ∈ T, t.1 = a → t.2.2 = X) {K : World → Prop}
    (hk : ∀ w' T', MapI w' B r T' → w.grownBy w' (some r) → w'.heap.size = w.heap.size → (∀ Z, Z ∈ T'.map rowE ↔ Z ∈ T.map rowE ∨ Z = a :: X) → T'.length ≤ T.length + 1 → K w') : sem0 PP (Instr.mapUpdate T_Mint_Sint (.map (some r)) (vI a) (Sl.v x)) w K := by
  obtain ⟨es, clock, hg, hal, hnd, hbo⟩ := h.obj
  obtain ⟨q, h3, h4⟩ := find_int a es.toList 0 (key_int hal)
  have hobj : (getObj r).run PP w = .ok (.map es clock) w := by simp [getObj, Sem.run, hg]
  have hfk : (Instr.findKey T_int (vI a) es.toList).run PP w = .ok q w := by
    simp only [Instr.findKey, Sem.run_bind, run_underlying u_intI, Result.andThen_ok, h3, Sem.run_pure]
  have hkept : ∀ {w' : World} {t : Sl} {L : List Int}, w.grownBy w' (some r) → OwnI w B t L → OwnI w' B t L := fun {w' t L} hg' ht => ht.kept hg' (fun g hgb e => own_ne_map ht hg g hgb (by cases e; rfl))
  have hlen : es.toList.length = T.length := by have := congrArg List.length hal; simpa using this
  rcases h4 with ⟨rfl, h5⟩ | ⟨j, e, rfl, h5, h6⟩
  · obtain ⟨w', s1, s2, s3, s4⟩ := set_mapI (es' := es.push { key := vI a, val := x.v, born := clock }) (c' := clock + 1) hg
    have hnew : ∀ t ∈ T, t.1 ≠ a := fun t ht hta => by
      obtain ⟨i, hi, rfl⟩ := List.getElem_of_mem ht
      obtain ⟨e, he, hk, _⟩ := align_back hal (List.getElem?_eq_getElem hi)
      exact h5 e (List.mem_of_getElem? he) (by rw [hk, hta])
    refine ⟨w', ?_, hk w' (T ++ [(a, x, X)]) ⟨⟨_, _, s2, ?_, ?_, ?_⟩, ?_, ?_⟩ s3 s4 (fun Z => ?_) (by simp)⟩
    · simp only [Instr.mapUpdate, Sem.run_bind, run_underlying u_mapI, Result.andThen_ok, hobj, check_I, hfk]
      exact s1
    · rw [Array.toList_push, List.map_append, List.map_append, hal]; rfl
    · rw [Array.toList_push, List.map_append, List.nodup_append]
      refine ⟨hnd, by simp, fun b hb c hc => ?_⟩
      simp at hc
      obtain ⟨e, he, rfl⟩ := List.mem_map.1 hb
      have := hbo e he
      omega
    · intro e he
      rw [Array.toList_push] at he
      rcases List.mem_append.1 he with he | he
      · have := hbo e he; omega
      · simp at he; subst he; simp
    · rw [List.map_append, List.nodup_append]
      refine ⟨h.keys, by simp, fun b hb c hc => ?_⟩
      obtain ⟨t, ht, rfl⟩ := List.mem_map.1 hb
      simp at hc
      rw [hc]; exact hnew t ht
    · intro t ht
      rcases List.mem_append.1 ht with ht | ht
      · exact hkept s3 (h.own t ht)
      · simp at ht; subst ht; exact hkept s3 hx
    · simp [rowE]
  · obtain ⟨t, ht, hkt, hvt⟩ := align_at hal h5
    have hta : t.1 = a := vI_inj (by rw [← hkt, h6])
    have htX := hsame t (List.mem_of_getElem? ht) hta
    have hj : es[j]? = some e := by rw [← Array.getElem?_toList]; exact h5
    have hjT : j < T.length := (List.getElem?_eq_some_iff.1 ht).1
    have hTj : T[j] = t := (List.getElem?_eq_some_iff.1 ht).2
    obtain ⟨w', s1, s2, s3, s4⟩ := set_mapI (es' := es.modify j fun e => { e with key := vI a, val := x.v }) (c' := clock) hg
    have hsame2 : (Instr.keyThatStays (((es[j]?).map (·.key)).getD (vI a)) (vI a)).run PP w = .ok (vI a) w := by
      rw [hj]
      simp [Option.map_some, Option.getD_some, h6, Instr.keyThatStays, Instr.sameBits]
    have hmod : (es.modify j fun e => { e with key := vI a, val := x.v }).toList = es.toList.modify j fun e => { e with key := vI a, val := x.v } := by simp
    have hrows : (T.set j (a, x, X)).map rowE = T.map rowE := by
      rw [List.map_set]
      apply List.ext_getElem?
      intro i
      rw [List.getElem?_set]
      split
      · rename_i e'
        subst e'
        split
        · rw [List.getElem?_map, ht]; simp [rowE, hta, htX]
        · rename_i hh; simp at hh; omega
      · rfl
    refine ⟨w', ?_, hk w' (T.set j (a, x, X)) ⟨⟨_, _, s2, ?_, ?_, ?_⟩, ?_, ?_⟩ s3 s4 (fun Z => ?_) (by simp)⟩
    · simp only [Instr.mapUpdate, Sem.run_bind, run_underlying u_mapI, Result.andThen_ok, hobj, check_I, hfk, Nat.zero_add, hsame2]
      exact s1
    · rw [hmod]
      apply List.ext_getElem?
      intro i
      rw [List.getElem?_map, List.getElem?_map, List.getElem?_modify, List.getElem?_set]
      have hi2 : (es.toList.map (fun e => (e.key, e.val)))[i]? = (T.map (fun t => (vI t.1, t.2.1.v)))[i]? := by rw [hal]
      rw [List.getElem?_map, List.getElem?_map] at hi2
      by_cases hij : j = i
      · subst hij
        rw [if_pos rfl, if_pos hjT]
        rw [Array.getElem?_toList, hj]
        simp
      · rw [if_neg hij]
        simpa [hij] using hi2
    · rw [hmod]
      have : (es.toList.modify j fun e => { e with key := vI a, val := x.v }).map (·.born) = es.toList.map (·.born) := by
        apply List.ext_getElem?
        intro i
        rw [List.getElem?_map, List.getElem?_map, List.getElem?_modify]
        by_cases hij : j = i
        · subst hij
          cases es.toList[j]? <;> simp
        · cases es.toList[i]? <;> simp [hij]
      rw [this]; exact hnd
    · intro e' he'
      rw [hmod] at he'
      obtain ⟨i, hi, rfl⟩ := List.getElem_of_mem he'
      rw [List.getElem_modify]
      have hi' : i < es.toList.length := by simpa using hi
      have := hbo _ (List.getElem_mem hi')
      split <;> simpa using this
    · have : (T.set j (a, x, X)).map (·.1) = T.map (·.1) := by
        rw [List.map_set]
        apply List.ext_getElem?
        intro i
        rw [List.getElem?_set]
        split
        · rename_i e'
          subst e'
          split
          · rw [List.getElem?_map, ht]; simp [hta]
          · rename_i hh; simp at hh; omega
        · rfl
      rw [this]; exact h.keys
    · intro t' ht'
      rcases List.mem_or_eq_of_mem_set ht' with h7 | h7
      · exact hkept s3 (h.own t' h7)
      · subst h7; exact hkept s3 hx
    · rw [hrows]
      constructor
      · exact .inl
      · rintro (h7 | rfl)
        · exact h7
        · exact List.mem_map.2 ⟨t, List.mem_of_getElem? ht, by simp [rowE, hta, htX]⟩
theorem newI {w : World} {B : Nat} {K : Option Nat → World → Prop} (hk : ∀ w', MapI w' B w.heap.size [] → Below w.heap.size w w' → K (some w.heap.size) w') : sem1 .map PP (Instr.makeMap T_Mint_Sint none) w K := by
  refine ⟨some w.heap.size, w.alloc (.map #[] 0), ?_, hk _ ⟨⟨#[], 0, heap_alloc_new w _, rfl, by simp, fun e he => by simp at he⟩, by simp, fun t ht => by cases ht⟩ (below_of_grow (World.grownBy_alloc w _ none))⟩
  simp [Instr.makeMap, run_underlying u_mapI, newObj, Sem.run]
end Go.Proofs.Ytmhgjfahgemblaa

/- A range over such a map, under way. -/
namespace Go.Proofs.Ytmhgjfahgemblaa
open Go Go.RowKit
open Go.ChangeMaps (setBlock)
set_option maxRecDepth 100000

theorem setBlock_heap {w : World} {r : Nat} {o o' : Obj} (h : w.heap[r]? = some o) : (setBlock w r o').heap[r]? = some o' ∧ w.grownBy (setBlock w r o') (some r) ∧ (setBlock w r o').heap.size = w.heap.size := by
  have hlt : r < w.heap.size := (Array.getElem?_eq_some_iff.1 h).1
  refine ⟨by simp [setBlock, hlt], ⟨rfl, rfl, rfl, by simp [setBlock], fun k hk hne => ?_⟩, by simp [setBlock]⟩
  simp only [setBlock]
  rw [Array.getElem?_setIfInBounds_ne]
  intro e; exact hne (by rw [e])
/-- The iterator r over the map b that holds T; the entries at I have come. -/
structure Ran (w : World) (B r b : Nat) (T : List EntI) (I : List Nat) : Prop where
  map : MapI w B b T
  it : ∃ es clock since seen c0, w.heap[b]? = some (.map es clock) ∧ es.toList.map (fun e => (e.key, e.val)) = T.map (fun t => (vI t.1, t.2.1.v)) ∧ (es.toList.map (·.born)).Nodup ∧ w.heap[r]? = some (.mapIter (some b) since seen c0) ∧
    (∀ x ∈ es.toList, x.born < since) ∧ since ≤ c0 ∧ seen.toList = I.map (fun i => (es.toList.map (·.born)).getD i 0) ∧ since ≤ clock
  nd : I.Nodup
  lt : ∀ i ∈ I, i < T.length
theorem Ran.rlt {w B r b T I} (h : Ran w B r b T I) : r < w.heap.size := by
  obtain ⟨es, clock, since, seen, c0, _, _, _, hr, _⟩ := h.it
  exact (Array.getElem?_eq_some_iff.1 hr).1
theorem Ran.keeps {S : Nat → Prop} {w w' B r b T I} (h : Ran w B r b T I) (hk : Keeps S w w') (hr : ¬ S r) (hb : ¬ S b) (hS : ∀ t ∈ T, ∀ g, t.2.1.blk = some g → ¬ S g) : Ran w' B r b T I := by
  refine ⟨h.map.keeps hk hb hS, ?_, h.nd, h.lt⟩
  obtain ⟨es, clock, since, seen, c0, h1, h2, h3, h4, h5⟩ := h.it
  exact ⟨es, clock, since, seen, c0, by rw [hk.block b (Array.getElem?_eq_some_iff.1 h1).1 hb]; exact h1, h2, h3, by rw [hk.block r (Array.getElem?_eq_some_iff.1 h4).1 hr]; exact h4, h5⟩
theorem range_mapI {w B b T} (h : MapI w B b T) {K : Value → World → Prop} (hk : ∀ w', Ran w' B w.heap.size b T [] → Below w.heap.size w w' → K (.pointer (some ⟨w.heap.size, 0, none⟩)) w') : sem1 .any PP (Instr.range T_Mint_Sint (.map (some b))) w K := by
  obtain ⟨es, clock, hg, hal, hnd, hbo⟩ := h.obj
  have hb : Below w.heap.size w (w.alloc (.mapIter (some b) clock #[] clock)) := below_of_grow (World.grownBy_alloc w _ none)
  refine ⟨.pointer (some ⟨w.heap.size, 0, none⟩), _, run_range_map w T_Mint_Sint T_int T_Sint b es clock u_mapI hg, hk _ ⟨h.grow hb, ⟨es, clock, clock, #[], clock, ?_, hal, hnd, heap_alloc_new w _, hbo, Nat.le_refl _, by simp, Nat.le_refl _⟩, by simp, fun i hi => (by cases hi)⟩ hb⟩
  rw [hb.block b (Array.getElem?_eq_some_iff.1 hg).1]; exact hg
theorem next_mapI {w B r b T I} (h : Ran w B r b T I) {Kf : World → Prop} {Kt : Value → Value → World → Prop} (hf : (∀ i, i < T.length → i ∈ I) → Kf w)
    (ht : ∀ i t w', T[i]? = some t → i ∉ I → Ran w' B r b T (I ++ [i]) → w.grownBy w' (some r) → w'.heap.size = w.heap.size → (Instr.entry (.pointer (some ⟨r, 0, none⟩))).run PP w' = .ok (.tuple #[vI t.1, t.2.1.v]) w' → Kt (vI t.1) t.2.1.v w') :
    nextK PP (.pointer (some ⟨r, 0, none⟩)) false T___ w Kf Kt := by
  obtain ⟨es, clock, since, seen, c0, hb, hal, hnd, hr, hold, hsc, hseen, hck⟩ := h.it
  have hlen : es.toList.length = T.length := by have := congrArg List.length hal; simpa using this
  have hbl : (es.toList.map (·.born)).length = T.length := by rw [List.length_map, hlen]
  have inj : ∀ {i j : Nat}, i < T.length → j < T.length → (es.toList.map (·.born)).getD i 0 = (es.toList.map (·.born)).getD j 0 → i = j := fun {i j} hi hj he => by
    rw [List.getD_eq_getElem?_getD, List.getD_eq_getElem?_getD, List.getElem?_eq_getElem (by omega), List.getElem?_eq_getElem (by omega)] at he
    have hp := List.pairwise_iff_getElem.1 hnd
    rcases Nat.lt_trichotomy i j with h1 | h1 | h1
    · exact absurd (show (es.toList.map (·.born))[i]'(by omega) = (es.toList.map (·.born))[j]'(by omega) from he) (hp i j (by omega) (by omega) h1)
    · exact h1
    · exact absurd (show (es.toList.map (·.born))[i]'(by omega) = (es.toList.map (·.born))[j]'(by omega) from he).symm (hp j i (by omega) (by omega) h1)
  rcases run_next_at (P := PP) w T___ r b since c0 seen es clock hr hb hold hsc with ⟨h0, hrun⟩ | ⟨e, he, w1, hw1, hrun⟩
  · refine .inl ⟨w, hrun, hf fun i hi => ?_⟩
    have hil : i < es.toList.length := by omega
    have h1 : leftOf es seen = #[] := Array.eq_empty_of_size_eq_zero h0
    have h2 : seen.contains (es.toList[i]).born = true := by
      cases hc : seen.contains (es.toList[i]).born
      · have : es.toList[i] ∈ (leftOf es seen) := by
          unfold leftOf
          rw [Array.mem_filter]
          exact ⟨Array.mem_toList_iff.1 (List.getElem_mem hil), by rw [hc]; rfl⟩
        rw [h1] at this
        simp at this
      · rfl
    have h3 : (es.toList[i]).born ∈ seen.toList := by
      have := Array.contains_iff_mem.1 h2
      exact Array.mem_toList_iff.2 this
    rw [hseen] at h3
    obtain ⟨j, hj, hje⟩ := List.mem_map.1 h3
    have : j = i := inj (h.lt j hj) hi (by
      rw [hje, List.getD_eq_getElem?_getD, List.getElem?_map, List.getElem?_eq_getElem hil]; rfl)
    rw [← this]; exact hj
  · obtain ⟨hem, hes⟩ := mem_left he
    obtain ⟨i, hi, rfl⟩ := List.getElem_of_mem hem
    obtain ⟨t, hti, hkt, hvt⟩ := align_at hal (List.getElem?_eq_getElem hi)
    have hborn : (es.toList.map (·.born)).getD i 0 = (es.toList[i]).born := by
      rw [List.getD_eq_getElem?_getD, List.getElem?_map, List.getElem?_eq_getElem hi]; rfl
    have hni : i ∉ I := fun hiI => by
      have : (es.toList[i]).born ∈ seen.toList := by
        rw [hseen]
        exact List.mem_map.2 ⟨i, hiI, hborn⟩
      have h2 := Array.contains_iff_mem.2 (Array.mem_toList_iff.1 this)
      rw [hes] at h2
      cases h2
    have hr1 : w1.heap[r]? = some (.mapIter (some b) since seen c0) := by rcases hw1 with rfl | rfl <;> exact hr
    have hb1 : w1.heap[b]? = some (.map es clock) := by rcases hw1 with rfl | rfl <;> exact hb
    obtain ⟨s1, s2, s3⟩ := setBlock_heap (o' := .mapIter (some b) since (seen.push (es.toList[i]).born) clock) hr1
    have hg : w.grownBy (setBlock w1 r (.mapIter (some b) since (seen.push (es.toList[i]).born) clock)) (some r) := by
      rcases hw1 with rfl | rfl
      · exact s2
      · exact ⟨s2.os, s2.tape, s2.output, s2.size, s2.block⟩
    have hne : b ≠ r := fun e => by rw [e, hr] at hb; cases hb
    have hbk : (setBlock w1 r (.mapIter (some b) since (seen.push (es.toList[i]).born) clock)).heap[b]? = some (.map es clock) := by
      rw [s2.block b (Array.getElem?_eq_some_iff.1 hb1).1 (fun e => hne (by cases e; rfl))]; exact hb1
    have hlt : i < T.length := by omega
    refine .inr ⟨_, _, _, by rw [hkt, hvt] at hrun; exact hrun, ht i t _ hti hni ⟨?_, ⟨es, clock, since, _, clock, hbk, hal, hnd, s1, hold, hck, ?_, hck⟩, ?_, ?_⟩ hg (by rw [s3]; rcases hw1 with rfl | rfl <;> rfl) ?_⟩
    · exact h.map.keeps (keeps_grown hg) (fun e => hne (by cases e; rfl)) fun t' ht' g hgb e => by
        have : r = g := by cases e; rfl
        subst this
        obtain ⟨cur, hc⟩ := (h.map.own t' ht').heapAt hgb
        rw [hr] at hc; cases hc
    · rw [Array.toList_push, hseen, List.map_append, List.map_cons, List.map_nil, hborn]
    · rw [List.nodup_append]
      refine ⟨h.nd, by simp, fun a ha c hc => ?_⟩
      simp at hc
      subst hc
      intro e; subst e; exact hni ha
    · intro j hj
      rcases List.mem_append.1 hj with hj | hj
      · exact h.lt j hj
      · simp at hj; subst hj; exact hlt
    · have := run_entry_at (P := PP) _ r b since seen es clock es.toList[i] s1 hbk (List.getElem_mem hi) hnd
      rw [hkt, hvt] at this
      exact this
end Go.Proofs.Ytmhgjfahgemblaa

/- slices.SortFunc at rows with slices.Compare: the shelf's contract in this proof's words. -/
namespace Go.Proofs.Ytmhgjfahgemblaa
open Go Go.RowKit Go.Sort Go.Lib
set_option maxRecDepth 100000

section
variable {α : Type} [Inhabited α] (enc : α → Value)
theorem holds_of_blockG {w : World} {g : Nat} {cur : Array Value} {e : TypeId} {ss : List α} (hb : w.heap[g]? = some (.cells cur e (0, 0))) (ht : cur.toList.take ss.length = ss.map enc) : Holds enc w g 0 ss.toArray := by
  intro j hj
  have hj' : j < ss.length := by simpa using hj
  refine ⟨?_, by simp [World.frozen?, hb]⟩
  have h1 : (cur.toList.take ss.length)[j]? = (ss.map enc)[j]? := by rw [ht]
  rw [List.getElem?_take_of_lt hj'] at h1
  simp only [World.cell?, hb, Nat.zero_add]
  simp only [Option.isSome_none, Bool.false_eq_true, if_false]
  rw [← Array.getElem?_toList, h1]
  simp [hj']
theorem heap_sortedG {w : World} {g n : Nat} {os : Array Obj} {cur : Array Value} {e : TypeId} {fr : Nat × Nat} (d : Array α) (hb : w.heap[g]? = some (.cells cur e fr)) :
    (grow (putRow enc (Sort.ahead w n) g 0 d) os).heap[g]? = some (.cells (putCells enc 0 d cur) e fr) := by
  have hg : g < w.heap.size := (Array.getElem?_eq_some_iff.1 hb).1
  rw [heap_grow_old _ _ (by simpa using hg)]
  simp [putRow, mapBlock, Sort.ahead, Array.getElem?_modify, hb, onCells]
theorem grownBy_sortedG {w : World} {g n : Nat} {os : Array Obj} (d : Array α) : w.grownBy (grow (putRow enc (Sort.ahead w n) g 0 d) os) (some g) := by
  refine ⟨rfl, rfl, rfl, by simp, fun k hk hne => ?_⟩
  rw [heap_grow_old _ _ (by simpa using hk)]
  have : g ≠ k := fun e => hne (by rw [e])
  simp [putRow, mapBlock, Sort.ahead, Array.getElem?_modify, this]
theorem take_putCellsG (cur : Array Value) (ts : List α) (h : ts.length ≤ cur.size) : (putCells enc 0 ts.toArray cur).toList.take ts.length = ts.map enc := by
  apply List.ext_getElem?
  intro j
  by_cases hj : j < ts.length
  · rw [List.getElem?_take_of_lt hj, Array.getElem?_toList]
    simp [putCells, hj, show j < cur.size by omega]
  · rw [List.getElem?_take_eq_none (by omega), List.getElem?_eq_none (by simp; omega)]
end
/-- A row that is owned, apart from the list of rows. -/
@[reducible] def RowP (w : World) (B g : Nat) : Type := {x : Sl × List Int // OwnI w B x.1 x.2 ∧ (∀ h, x.1.blk = some h → h ≠ g) ∧ x.2.length < 2^38}
instance (w : World) (B g : Nat) : Inhabited (RowP w B g) := ⟨⟨(Sl.nil, []), Own.nil _ _ _, fun h e => by simp [Sl.blk, Sl.nil] at e, by simp⟩⟩
def encP {w : World} {B g : Nat} (x : RowP w B g) : Value := x.1.1.v
def cfP {w : World} {B g : Nat} (x y : RowP w B g) : Int := lexC x.1.2 y.1.2
theorem ltP {w : World} {B g : Nat} (x y : RowP w B g) : ltOf cfP x y = decide (lexC x.1.2 y.1.2 < 0) := rfl
theorem swoP (w : World) (B g : Nat) : SWO (ltOf (cfP (w := w) (B := B) (g := g))) where
  irrefl x := by rw [ltP, lexC_self]; rfl
  trans x y z h1 h2 := by
    rw [ltP] at *
    exact decide_eq_true (lexC_trans _ _ _ (of_decide_eq_true h1) (of_decide_eq_true h2))
  ntrans x y z h1 h2 := by
    rw [ltP] at *
    refine decide_eq_false fun h3 => ?_
    have h1 := of_decide_eq_false h1
    have h2 := of_decide_eq_false h2
    by_cases e1 : lexC x.1.2 y.1.2 = 0
    · rw [lexC_zero _ _ e1] at h3; exact h2 h3
    · by_cases e2 : lexC y.1.2 z.1.2 = 0
      · rw [← lexC_zero _ _ e2] at h3; exact h1 h3
      · have h4 := lexC_swap x.1.2 y.1.2
        have h5 := lexC_swap y.1.2 z.1.2
        have h6 := lexC_swap x.1.2 z.1.2
        have := lexC_trans z.1.2 y.1.2 x.1.2 (by omega) (by omega)
        omega
theorem zip_row {w : World} {B g : Nat} : ∀ (rs : List Sl) (R : List (List Int)), rs.length = R.length → (∀ (i : Nat) r L, rs[i]? = some r → R[i]? = some L → OwnI w B r L ∧ (∀ h, r.blk = some h → h ≠ g) ∧ L.length < 2^38) →
    ∃ d : List (RowP w B g), d.map (·.1.1) = rs ∧ d.map (·.1.2) = R
  | [], [], _, _ => ⟨[], rfl, rfl⟩
  | [], _ :: _, h, _ => by simp at h
  | _ :: _, [], h, _ => by simp at h
  | r :: rs, L :: R, h, hh => by
    obtain ⟨d, h1, h2⟩ := zip_row rs R (by simpa using h) fun i r L e1 e2 => hh (i + 1) r L (by simpa using e1) (by simpa using e2)
    exact ⟨⟨(r, L), hh 0 r L rfl rfl⟩ :: d, by rw [List.map_cons, h1], by rw [List.map_cons, h2]⟩
theorem c_SortF {w : World} {B : Nat} {s : Sl} {rs : List Sl} {R : List (List Int)} (h : OwnRows w B s rs R) (hl : R.length < 2^40) (hL : ∀ L ∈ R, L.length < 2^38 ∧ L ≠ []) (hk : (R.map hd).Nodup) {K : World → Prop}
    (hK : ∀ w' rs' R', OwnRows w' B s rs' R' → Str R' → R'.Perm R → Below B w w' → K w') :
    call0 PP F.slices_SortFunc_____int___int_ #[s.v, .func (.func F.slices_Compare___int_int_) #[] #[]] w K := by
  have hn : s.n = R.length := h.n
  have hnc := h.out.nc
  have hcm := h.out.cm
  have hrl := h.len
  rcases h.out.at_ with hc | ⟨g, cur, ha, hBg, hg, hsz, ht⟩
  · have h0 : R.length = 0 := by omega
    obtain rfl : R = [] := List.eq_nil_of_length_eq_zero h0
    have e : s.v = .slice s.a 0 s.c := by rw [Sl.v, hn]; rfl
    rw [e]
    refine (Calls.mono (AnyF.slices_SortFunc_none { Try.laysSlF6_f55 with } s.a s.c (.func (.func F.slices_Compare___int_int_) #[] #[]) w) ?_)
    rintro e w' ⟨rfl, rfl⟩
    exact ⟨rfl, hK _ rs [] h List.Pairwise.nil (List.Perm.refl _) (Below.refl _ _)⟩
  · by_cases hz : R = []
    · subst hz
      have e : s.v = .slice s.a 0 s.c := by rw [Sl.v, hn]; rfl
      rw [e]
      refine (Calls.mono (AnyF.slices_SortFunc_none { Try.laysSlF6_f55 with } s.a s.c (.func (.func F.slices_Compare___int_int_) #[] #[]) w) ?_)
      rintro e w' ⟨rfl, rfl⟩
      exact ⟨rfl, hK _ rs [] h List.Pairwise.nil (List.Perm.refl _) (Below.refl _ _)⟩
    have hpos : 0 < R.length := List.length_pos_iff.2 hz
    have hc0 : s.c ≠ 0 := by omega
    have hblk : s.blk = some g := by rw [Sl.blk, if_neg hc0, ha]; rfl
    have hglt : g < w.heap.size := (Array.getElem?_eq_some_iff.1 hg).1
    obtain ⟨d, hd1, hd2⟩ := zip_row (w := w) (B := B) (g := g) rs R hrl fun i r L e1 e2 => ⟨h.at_ i r L e1 e2, fun x hx e => (h.out.apt (h.at_ i r L e1 e2) (by decide)) g hblk (by rw [hx, e]), (hL L (List.mem_of_getElem? e2)).1⟩
    have hdl : d.length = R.length := by rw [← hd2, List.length_map]
    have hdv : d.map encP = rs.map Sl.v := by rw [← hd1, List.map_map]; rfl
    have e : s.v = .slice (some ⟨g, 0, none⟩) d.toArray.size s.c := by rw [Sl.v, hn, ha, List.size_toArray, hdl]
    rw [e]
    have eg : ∀ args w, (callFunc F.slices_Compare___int_int_ args).run PP w = .ok (.enter F.slices_Compare___int_int_ args) w := fun args w => callFunc_run noCount (by kernel_rfl) args w
    have hcmp : CmpReads PP F.slices_Compare___int_int_ #[] (encP (w := w) (B := B) (g := g)) cfP g 0 d.toArray.size w := by
      intro m os dk hs x y
      have hgr := grownBy_sortedG (w := w) (g := g) (n := m) (os := os) encP dk
      have kept : ∀ z : RowP w B g, OwnI (sortWorld encP w g 0 m dk os) B z.1.1 z.1.2 := fun z => Own.keeps z.2.1 (keeps_grown hgr) (fun k hk e => z.2.2.1 k hk (by cases e; rfl))
      refine (c_CompareS (kept x).row (kept y).row x.2.2.2 _ (Drew.refl _)).mono ?_
      rintro e w' ⟨rfl, q, rfl⟩
      exact ⟨rfl, q, rfl⟩
    refine (Calls.mono (Try.slices_SortFunc encP (fun _ => rfl) cfP (swoP w B g) F.slices_Compare___int_int_ #[] g 0 s.c d.toArray w eg hcmp.lays (holds_of_blockG encP hg ?_) hglt (by rw [List.size_toArray]; omega)) ?_)
    · rw [hdv, hdl, ← hn]; exact ht
    rintro e w' ⟨rfl, d', n, os, hp, hs, rfl⟩
    have hd's : d'.size = R.length := by rw [hp.1, List.size_toArray, hdl]
    have hperm : d'.toList.Perm d := by
      have := hp.2.2
      rw [List.size_toArray, hdl] at this
      rw [show d'.extract 0 R.length = d' by rw [← hd's]; simp, show d.toArray.extract 0 R.length = d.toArray by rw [← hdl]; simp] at this
      simpa using this
    have hgr := grownBy_sortedG (w := w) (g := g) (n := n) (os := os) encP d'
    have hRp : (d'.toList.map (·.1.2)).Perm R := by rw [← hd2]; exact hperm.map _
    have hdlen : d'.toList.length = R.length := by simpa using hd's
    refine ⟨rfl, hK _ (d'.toList.map (·.1.1)) (d'.toList.map (·.1.2)) ⟨⟨?_, hnc, hcm, .inr ⟨g, _, ha, hBg, heap_sortedG encP d' hg, by simp [Go.Sort.putCells, hsz], ?_⟩⟩, by simp, ?_, ?_⟩ ?_ hRp ?_⟩
    · rw [List.length_map, List.length_map, hn, hdlen]
    · rw [hn, ← hdlen, List.map_map]
      have := take_putCellsG (encP (w := w) (B := B) (g := g)) cur d'.toList (by omega)
      rw [Array.toArray_toList] at this
      exact this
    · intro i r L e1 e2
      rw [List.getElem?_map] at e1 e2
      cases hz : d'.toList[i]? with
      | none => rw [hz] at e1; cases e1
      | some z =>
        rw [hz] at e1 e2
        cases e1; cases e2
        exact Own.keeps z.2.1 (keeps_grown hgr) (fun k hk e => z.2.2.1 k hk (by cases e; rfl))
    · have h1 : rs.Pairwise Apt := List.pairwise_iff_getElem.2 fun i j hi hj hij => h.apt i j _ _ (by omega) (List.getElem?_eq_getElem hi) (List.getElem?_eq_getElem hj)
      have h2 : (d'.toList.map (·.1.1)).Perm rs := by rw [← hd1]; exact hperm.map _
      have h3 : (d'.toList.map (·.1.1)).Pairwise Apt := (h2.symm.pairwise_iff (fun {_ _} h => h.symm)).1 h1
      intro i j r t hij e1 e2
      obtain ⟨hi, rfl⟩ := List.getElem?_eq_some_iff.1 e1
      obtain ⟨hj, rfl⟩ := List.getElem?_eq_some_iff.1 e2
      rcases Nat.lt_or_gt_of_ne hij with h4 | h4
      · exact List.pairwise_iff_getElem.1 h3 i j hi hj h4
      · exact (List.pairwise_iff_getElem.1 h3 j i hj hi h4).symm
    · have hnd : ((d'.toList.map (·.1.2)).map hd).Nodup := (hRp.map hd).nodup_iff.2 hk
      refine List.pairwise_iff_getElem.2 fun i j hi hj hij => ?_
      have hi' : i < d'.size := by simpa using hi
      have hj' : j < d'.size := by simpa using hj
      have h1 := hs i j (by omega) hij (by rw [List.size_toArray, hdl, ← hd's]; exact hj')
      rw [getElem!_pos d' i hi', getElem!_pos d' j hj', ltP] at h1
      have h1 := of_decide_eq_false h1
      rw [List.getElem_map, List.getElem_map, Array.getElem_toList, Array.getElem_toList]
      have hne : hd d'[i].1.2 ≠ hd d'[j].1.2 := by
        have := List.pairwise_iff_getElem.1 hnd i j (by simpa using hi') (by simpa using hj') hij
        simpa using this
      have hmem : ∀ k (hk : k < d'.size), d'[k].1.2 ≠ [] := fun k hk => (hL _ (hRp.subset (List.mem_map.2 ⟨d'[k], Array.mem_toList_iff.2 (Array.getElem_mem hk), rfl⟩))).2
      obtain ⟨x, a, hxa⟩ := List.exists_cons_of_ne_nil (hmem i hi')
      obtain ⟨y, b, hyb⟩ := List.exists_cons_of_ne_nil (hmem j hj')
      rw [hxa, hyb] at hne h1 ⊢
      have hne : x ≠ y := hne
      have h3 : ¬ y < x := fun h => h1 ((lexC_hd (fun e => hne e.symm)).2 h)
      show x < y
      omega
    · exact ⟨hgr.os, hgr.tape, hgr.output, hgr.size, fun k hk => hgr.block k (by omega) fun e => by have : k = g := Option.some.inj e
                                                                                                    omega⟩
end Go.Proofs.Ytmhgjfahgemblaa

/- RuleUpTo: the model's text. -/
namespace Go.Proofs.Ytmhgjfahgemblaa
open Go Go.RowKit
set_option maxRecDepth 100000

/-- Rows that are owned, with an owned list of them. -/
structure RW (w : World) (B : Nat) (s : Sl) (rs : List Sl) (R : List (List Int)) : Prop where
  out : Own w B T_Sint s (rs.map Sl.v)
  len : rs.length = R.length
  at_ : ∀ (i : Nat) (r : Sl) (L : List Int), rs[i]? = some r → R[i]? = some L → OwnI w B r L
theorem RW.rows {w B s rs R} (h : RW w B s rs R) : RowSS w s R := ⟨rs, h.out.row, h.len, fun i r L e1 e2 => (h.at_ i r L e1 e2).row⟩
theorem RW.grow {w w' B s rs R} (h : RW w B s rs R) (hb : Below w.heap.size w w') : RW w' B s rs R := ⟨h.out.grow hb, h.len, fun i r L e1 e2 => (h.at_ i r L e1 e2).grow hb⟩
theorem RW.heap {w w' B s rs R} (h : RW w B s rs R) (hh : w'.heap = w.heap) : RW w' B s rs R := ⟨h.out.heap hh, h.len, fun i r L e1 e2 => (h.at_ i r L e1 e2).heap hh⟩
theorem insG_at {α : Type} {l : List α} {x y : α} {k i : Nat} (hk : k ≤ l.length) (h : (l.take k ++ [x] ++ l.drop k)[i]? = some y) : (i < k ∧ l[i]? = some y) ∨ (i = k ∧ y = x) ∨ (k < i ∧ l[i - 1]? = some y) := by
  rw [List.append_assoc] at h
  by_cases h1 : i < k
  · rw [List.getElem?_append_left (by rw [List.length_take]; omega), List.getElem?_take, if_pos h1] at h
    exact .inl ⟨h1, h⟩
  · rw [List.getElem?_append_right (by rw [List.length_take]; omega), List.length_take, Nat.min_eq_left hk, List.singleton_append] at h
    by_cases h2 : i = k
    · subst h2
      rw [Nat.sub_self] at h
      simp at h
      exact .inr (.inl ⟨rfl, h.symm⟩)
    · obtain ⟨d, hd⟩ : ∃ d, i - k = d + 1 := ⟨i - k - 1, by omega⟩
      rw [hd, List.getElem?_cons_succ, List.getElem?_drop] at h
      refine .inr (.inr ⟨by omega, ?_⟩)
      rw [show i - 1 = k + d by omega]; exact h
theorem insG_rel {α β : Type} {l : List α} {m : List β} {x : α} {y : β} {k : Nat} (hl : l.length = m.length) (hk : k ≤ l.length) {T : α → β → Prop} (h : ∀ (i : Nat) a b, l[i]? = some a → m[i]? = some b → T a b) (hxy : T x y) :
    ∀ (i : Nat) a b, (l.take k ++ [x] ++ l.drop k)[i]? = some a → (m.take k ++ [y] ++ m.drop k)[i]? = some b → T a b := by
  intro i a b e1 e2
  rcases insG_at hk e1 with ⟨h1, h2⟩ | ⟨h1, rfl⟩ | ⟨h1, h2⟩
  · rcases insG_at (by omega) e2 with ⟨h3, h4⟩ | ⟨h3, rfl⟩ | ⟨h3, h4⟩
    · exact h _ _ _ h2 h4
    · omega
    · omega
  · rcases insG_at (by omega) e2 with ⟨h3, h4⟩ | ⟨h3, rfl⟩ | ⟨h3, h4⟩
    · omega
    · exact hxy
    · omega
  · rcases insG_at (by omega) e2 with ⟨h3, h4⟩ | ⟨h3, rfl⟩ | ⟨h3, h4⟩
    · omega
    · omega
    · exact h _ _ _ h2 h4
theorem hd_getD (X : List Int) : hd X = X.getD 0 0 := rfl
theorem c_l15Add {w : World} {B : Nat} {s x : Sl} {rs : List Sl} {R : List (List Int)} {X : List Int} (h : RW w B s rs R) (hB : B ≤ w.heap.size) (hx : OwnI w B x X) (hX : X ≠ []) (hR : ∀ Y ∈ R, Y ≠ []) (hS : Str R) (hl : R.length < 2^30) (hXl : ∀ Y ∈ R, Y.length < 2^38) :
    Calls PP F.spec_l15Add #[s.v, x.v] w fun e w' => ∃ (s' : Sl) (rs' : List Sl) (R' : List (List Int)) (ok : Bool), e = .returned (.tuple #[s'.v, .bool ok]) ∧ RW w' B s' rs' R' ∧ Stp w w' (fun g => s.blk = some g) (fun g => s'.blk = some g) ∧
      ((ok = true ∧ Str R' ∧ ∀ Z, Z ∈ R' ↔ Z ∈ R ∨ Z = X) ∨ (ok = false ∧ ∃ Y ∈ R, hd Y = hd X ∧ Y ≠ X)) := by
  have hsn : s.n = R.length := h.rows.n
  have hXp : 0 < X.length := List.length_pos_iff.2 hX
  refine spec_l15Add.calls s x ?_
  rw [spec_l15Add.E_s, hsn]
  -- the insertion
  have ins : ∀ (at_ : Nat) (w2 : World), at_ ≤ R.length → Drew w w2 → (∀ j, at_ ≤ j → j < R.length → hd X < hd (R.getD j [])) → (at_ = 0 ∨ hd (R.getD (at_ - 1) []) < hd X) →
      sem1 .sl PP (Instr.buildSlice T_SSint 0 #[]) w2 fun (ρ21 : Sl) ω22 => cutK 1 s (some (at_ : Int)) none fun (s23 : Sl) => sem1 .sl PP (Builtin.append_ #[T_SSint, T_SSint] T_SSint #[Sl.v ρ21, Sl.v s23]) ω22 fun (ρ24 : Sl) ω25 =>
        cutK 1 s none (some (at_ : Int)) fun (s26 : Sl) => sem1 .sl PP (Instr.buildSlice T_SSint 1 #[(0, Sl.v x)]) ω25 fun (ρ27 : Sl) ω28 => sem1 .sl PP (Builtin.append_ #[T_SSint, T_SSint] T_SSint #[Sl.v s26, Sl.v ρ27]) ω28 fun (ρ29 : Sl) ω30 =>
        sem1 .sl PP (Builtin.append_ #[T_SSint, T_SSint] T_SSint #[Sl.v ρ29, Sl.v ρ24]) ω30 fun (ρ31 : Sl) ω32 =>
        (fun e w' => ∃ (s' : Sl) (rs' : List Sl) (R' : List (List Int)) (ok : Bool), e = Ending.returned (.tuple #[s'.v, .bool ok]) ∧ RW w' B s' rs' R' ∧ Stp w w' (fun g => s.blk = some g) (fun g => s'.blk = some g) ∧
          ((ok = true ∧ Str R' ∧ ∀ Z, Z ∈ R' ↔ Z ∈ R ∨ Z = X) ∨ (ok = false ∧ ∃ Y ∈ R, hd Y = hd X ∧ Y ≠ X))) (.returned (.tuple #[Sl.v ρ31, .bool true])) ω32 := by
    intro at_ w2 hat hd2 hgt hle
    have hrl := h.len
    have h2 := h.heap hd2.heap'
    have hx2 : OwnI w2 B x X := Own.heap hx hd2.heap'
    have hb2 : Below B w w2 := hd2.below B
    have hB2 : B ≤ w2.heap.size := Nat.le_trans hB hb2.size
    refine lit0 oneSint (B := w2.heap.size) (Nat.le_refl _) ?_
    intro r w4 hr hg4 _
    have hb24 := below_of_grow hg4
    have h4 := h2.grow hb24
    refine Row.cut h4.out.row (by simp) (by simp <;> omega) (by simp <;> omega) fun s16 hs16 => ?_
    have e2 : (List.take ((none : Option Int).getD (s.n : Int)).toNat (rs.map Sl.v)).drop ((some (at_ : Int)).getD 0).toNat = (rs.drop at_).map Sl.v := by
      rw [hsn]; simp [List.map_drop, List.take_of_length_le, hrl]
    rw [e2] at hs16
    refine append_row oneSint hr hb24.size hs16 (fun v hv => by obtain ⟨x, _, rfl⟩ := List.mem_map.1 hv; exact One.sl x) (by simp; omega) ?_
    intro r2 w5 hr2 hg5 _ _
    rw [List.nil_append] at hr2
    have hb25 := hb24.grown hg5 hb24.size (fun g hg => (hr.lt g hg).1)
    have h5 := h2.grow hb25
    have hb5 := hb2.trans (hb25.mono hB2)
    have hB5 : B ≤ w5.heap.size := Nat.le_trans hB2 hb25.size
    refine Own.pop h5.out (by omega) (by rw [List.length_map]; omega) fun s20 hs20 hblk => ?_
    rw [← List.map_take, Int.toNat_natCast] at hs20
    refine append_one oneSint hs20 hB5 (One.sl x) (by simp; omega) ?_
    intro o7 w7 ho7 hg7 hn7
    have st57 : Stp w5 w7 (fun g => s.blk = some g) (fun g => o7.blk = some g) := ⟨by rw [← hblk]; exact (keeps_grown hg7), fun g hg => by rw [← hblk]; exact hn7 g hg⟩
    have hb57 : Below B w5 w7 := (keeps_grown hg7).below (fun k hk => (hs20.lt k hk).1) hB5
    have keep7 : ∀ r L, OwnI w2 B r L → OwnI w7 B r L := fun r L hr => by
      have h6 := Own.grow hr hb25
      exact h6.kept hg7 (fun g hg' e => (hs20.apt h6 (by decide)) g e hg')
    have hr7 : Own w7 w2.heap.size T_Sint r2 ((rs.drop at_).map Sl.v) := Own.keeps hr2 (keeps_grown hg7) (fun g hg hg2 => by
      rw [hblk] at hg2; have := (h2.out.lt g hg2).2; have := (hr2.lt g hg).1; omega)
    refine append_row oneSint ho7 (Nat.le_trans hB5 hb57.size) hr7.row (fun v hv => by obtain ⟨x, _, rfl⟩ := List.mem_map.1 hv; exact One.sl x) (by simp; omega) ?_
    intro o8 w8 ho8 hg8 hn8 _
    have st58 := st57.trans (Stp.mk (S := fun g => o7.blk = some g) (S' := fun g => o8.blk = some g) (keeps_grown hg8) hn8)
    have hb58 : Below B w5 w8 := hb57.trans ((keeps_grown hg8).below (fun k hk => (ho7.lt k hk).1) (Nat.le_trans hB5 hb57.size))
    have keep8 : ∀ r L, OwnI w2 B r L → OwnI w8 B r L := fun r L hr => by
      have h6 := keep7 r L hr
      exact h6.kept hg8 (fun g hg' e => (ho7.apt h6 (by decide)) g e hg')
    refine ⟨o8, rs.take at_ ++ [x] ++ rs.drop at_, insR R X at_, true, rfl, ⟨?_, ?_, ?_⟩, ((Stp.grow (hd2.below _)).trans (Stp.grow hb25)).trans st58, .inl ⟨rfl, insR_str hS hat hgt hle, fun Z => insR_mem⟩⟩
    · simpa using ho8
    · simp [insR, hrl]
    · exact insG_rel hrl (by omega) (fun i a b e1 e2 => keep8 a b (h2.at_ i a b e1 e2)) (keep8 x X hx2)
  have fin : ∀ (at_ : Int) (w3 : World), 0 ≤ at_ → at_ ≤ R.length → Drew w w3 → (∀ j, at_.toNat ≤ j → j < R.length → hd X < hd (R.getD j [])) → (at_ = 0 ∨ ¬ hd X < hd (R.getD (at_.toNat - 1) [])) →
      spec_l15Add.q1 std (fun e w' => ∃ (s' : Sl) (rs' : List Sl) (R' : List (List Int)) (ok : Bool), e = .returned (.tuple #[s'.v, .bool ok]) ∧ RW w' B s' rs' R' ∧ Stp w w' (fun g => s.blk = some g) (fun g => s'.blk = some g) ∧
      ((ok = true ∧ Str R' ∧ ∀ Z, Z ∈ R' ↔ Z ∈ R ∨ Z = X) ∨ (ok = false ∧ ∃ Y ∈ R, hd Y = hd X ∧ Y ≠ X))) (.exit 0) (spec_l15Add.x0 s x at_) w3 := by
    intro at_ w3 h0 h1 hd3 hgt hle
    have h3 := h.heap hd3.heap'
    have hx3 : OwnI w3 B x X := Own.heap hx hd3.heap'
    rw [spec_l15Add.A2_0_s]
    refine bif_dec (fun hp => ?_) (fun hp => ?_)
    · have e1 : w64 (at_ - 1) = at_ - 1 := w64_id (by omega) (by omega)
      have en : (at_ - 1).toNat = at_.toNat - 1 := by omega
      have hlt : at_.toNat - 1 < R.length := by omega
      rw [e1]
      refine RowSS.get h3.rows (by omega) (by omega) fun r hr => ?_
      rw [en] at hr
      have hne := hR _ (List.getElem_mem hlt)
      rw [← getD_SS hlt] at hne
      have hpos : 0 < (R.getD (at_.toNat - 1) []).length := List.length_pos_iff.2 hne
      refine RowI.get hr (by omega) (by omega) ?_
      refine RowI.get hx3.row (by omega) (by omega) ?_
      refine drew_intro fun w4 hd4 => ?_
      have hd34 := hd3.trans hd4
      have h4 := h.heap hd34.heap'
      refine bif_intro (fun h5 => ?_) (fun h5 => ?_)
      · have heq : hd (R.getD (at_.toNat - 1) []) = hd X := eq_of_beq h5
        refine RowSS.get h4.rows (by omega) (by omega) fun r2 hr2 => ?_
        rw [en] at hr2
        refine Quiet.call1 (s := .bool) (c_l2Same hr2 (Own.heap hx hd34.heap').row (by have := hXl _ (List.getElem_mem hlt); rw [← getD_SS hlt] at this; omega)) ?_
        intro w5 hd5
        have hmem : R.getD (at_.toNat - 1) [] ∈ R := by rw [getD_SS hlt]; exact List.getElem_mem hlt
        refine ⟨s, rs, R, _, rfl, h4.heap hd5.heap', (Stp.grow (hd34.below _)).trans (Stp.grow (hd5.below _)), ?_⟩
        by_cases hs : R.getD (at_.toNat - 1) [] = X
        · refine .inl ⟨decide_eq_true hs, hS, fun Z => ⟨.inl, fun hZ => ?_⟩⟩
          rcases hZ with hZ | rfl
          · exact hZ
          · rw [← hs]; exact hmem
        · exact .inr ⟨decide_eq_false hs, _, hmem, heq, hs⟩
      · have hne2 : hd (R.getD (at_.toNat - 1) []) ≠ hd X := ne_of_beq_false h5
        obtain ⟨a, rfl⟩ : ∃ a : Nat, at_ = a := ⟨at_.toNat, by omega⟩
        refine ins a w4 (by omega) hd34 hgt (.inr ?_)
        rw [Int.toNat_natCast] at hle hne2
        rcases hle with hle | hle <;> omega
    · refine drew_intro fun w4 hd4 => ?_
      obtain rfl : at_ = ((0 : Nat) : Int) := by omega
      exact ins 0 w4 (by omega) (hd3.trans hd4) hgt (.inl rfl)
  refine spec_l15Add.L2_rule _ _ _ _ _ (I := fun at_ w3 => 0 ≤ at_ ∧ at_ ≤ R.length ∧ Drew w w3 ∧ ∀ j, at_.toNat ≤ j → j < R.length → hd X < hd (R.getD j [])) (μ := fun at_ _ => at_.toNat)
    ⟨by omega, by omega, Drew.refl _, fun j hj1 hj2 => by omega⟩ ?_
  rintro at_ w3 ⟨h0, h1, hd3, hgt⟩
  rw [spec_l15Add.B2_s]
  have h3 := h.heap hd3.heap'
  refine bif_dec (fun h4 => ?_) (fun h4 => ?_)
  · refine RowI.get (Own.heap hx hd3.heap').row (by omega) (by omega) ?_
    have e1 : w64 (at_ - 1) = at_ - 1 := w64_id (by omega) (by omega)
    have en : (at_ - 1).toNat = at_.toNat - 1 := by omega
    have hlt : at_.toNat - 1 < R.length := by omega
    rw [e1]
    refine RowSS.get h3.rows (by omega) (by omega) fun r hr => ?_
    rw [en] at hr
    have hne := hR _ (List.getElem_mem hlt)
    rw [← getD_SS hlt] at hne
    have hpos : 0 < (R.getD (at_.toNat - 1) []).length := List.length_pos_iff.2 hne
    refine RowI.get hr (by omega) (by omega) ?_
    refine drew_intro fun w4 hd4 => ?_
    refine bif_dec (fun h5 => ?_) (fun h5 => ?_)
    · refine ⟨at_ - 1, rfl, ⟨by omega, by omega, hd3.trans hd4, fun j hj1 hj2 => ?_⟩, by omega⟩
      by_cases e : j = at_.toNat - 1
      · subst e; exact h5
      · exact hgt j (by omega) hj2
    · exact fin at_ w4 h0 h1 (hd3.trans hd4) hgt (.inr h5)
  · refine drew_intro fun w4 hd4 => ?_
    exact fin at_ w4 h0 h1 (hd3.trans hd4) hgt (.inl (by omega))
theorem class_InCl {LL : List (List Int)} {m : Nat} (hB : BasisOk LL) (hm : m ≤ 6) {p : List Int} (hp : p ∈ classV LL m) : InCl LL p := ⟨hB, permsV_isP (by omega) (classV_mem hp).1, (classV_mem hp).2⟩
theorem vI_one' {L : List Int} : ∀ v ∈ L.map vI, One v := fun v hv => by obtain ⟨x, _, rfl⟩ := List.mem_map.1 hv; exact One.int x
/-- '[]int{label} ++ labels'. -/
theorem make_ent {w : World} {B : Nat} (hB : B ≤ w.heap.size) {a : Int} {K : Sl → World → Prop} (hk : ∀ s w', OwnI w' B s [a] → Below w.heap.size w w' → (∀ g, s.blk = some g → w.heap.size ≤ g) → K s w') :
    sem1 .sl PP (Instr.buildSlice T_Sint 1 #[(0, vI a)]) w K :=
  lit1 oneInt (B := w.heap.size) (Nat.le_refl _) (One.int a) fun s w' hs hg _ => hk s w' (hs.mono hB) (below_of_grow hg) (fun g hg => (hs.lt g hg).1)
theorem c_specRuleUpTo {w : World} {l : Sl} {LL : List (List Int)} (hl : RowSS w l LL) (hL : LL.length < 2^38) (ht : tot LL < 2^37) (n : Int) :
    Calls PP F.spec_RuleUpTo #[l.v, vI n] w fun e w' => ∃ s : Sl, e = .returned (.tuple #[s.v, .bool (RuleUpToV1 LL n)]) ∧ RowSS w' s (RuleUpToV LL n) ∧ Below w.heap.size w w' := by
  have empty : ∀ (w1 : World), Below w.heap.size w w1 → RuleUpToV1 LL n = false → RuleUpToV LL n = [] →
      sem1 .sl PP (Instr.buildSlice T_SSint 0 #[]) w1 fun (ρ2 : Sl) ω3 => (fun e w' => ∃ s : Sl, e = Ending.returned (.tuple #[s.v, .bool (RuleUpToV1 LL n)]) ∧ RowSS w' s (RuleUpToV LL n) ∧ Below w.heap.size w w') (.returned (.tuple #[Sl.v ρ2, .bool false])) ω3 := by
    intro w1 hb1 h1 h2
    refine lit0 oneSint (B := w1.heap.size) (Nat.le_refl _) ?_
    intro o w2 ho hg _
    exact ⟨o, by rw [h1], by rw [h2]; exact (OwnRows.nil ho).row, hb1.trans ((below_of_grow hg).mono hb1.size)⟩
  refine spec_RuleUpTo.calls l n ?_
  rw [spec_RuleUpTo.E_s]
  refine (c_specIsBasis hl hL ht).mono ?_
  rintro e w1 ⟨rfl, hb1⟩
  refine ⟨_, rfl, ?_⟩
  refine bif_intro (fun h => ?_) (fun h => ?_)
  · have h : ¬ BasisOk LL := by simpa [IsBasisV] using h
    obtain ⟨h1, h2⟩ := told_no (LL := LL) (n := n) (fun hh => h hh.1)
    exact empty w1 hb1 h1 h2
  have hBa : BasisOk LL := by simpa [IsBasisV] using h
  refine Pure.pcall1 (s := .bool) (c_l1In n 0 5) ?_
  refine bif_intro (fun h => ?_) (fun h => ?_)
  · have h : ¬ (0 ≤ n ∧ n ≤ 5) := by simp at h; omega
    obtain ⟨h1, h2⟩ := told_no (LL := LL) (n := n) (fun hh => h ⟨hh.2.1, hh.2.2.1⟩)
    exact empty w1 hb1 h1 h2
  have hn5 : 0 ≤ n ∧ n ≤ 5 := by simpa using h
  refine lit0 oneSint (B := w.heap.size) hb1.size ?_
  intro o w2 ho hg2 _
  have hb2 := hb1.trans ((below_of_grow hg2).mono hb1.size)
  refine spec_RuleUpTo.L5_rule _ _ _ _ _ _ (I := fun rule m w' => 0 ≤ m ∧ m ≤ n + 1 ∧ Below w.heap.size w w' ∧ ∃ rs R, RW w' w.heap.size rule rs R ∧ Told (ents LL m.toNat) R) (μ := fun _ m _ => (n + 1 - m).toNat)
    ⟨by omega, by omega, hb2, [], [], ⟨ho, rfl, fun i r L e1 => by simp at e1⟩, List.Pairwise.nil, fun Z => by simp [ents]⟩ ?_
  rintro rule m w3 ⟨hm0, hm, hb3, rs, R, hRW, hT⟩
  rw [spec_RuleUpTo.B5_s]
  refine bif_dec (fun h3 => ?_) (fun h3 => ?_)
  · refine (c_ClassOf (hl.grow hb3) hL ht m).mono ?_
    rintro e w4 ⟨t, rfl, hts, hb34⟩
    refine ⟨t, rfl, ?_⟩
    have hV : ClassOfV LL m = classV LL m.toNat := by rw [ClassOfV, if_pos ⟨hBa, by omega, by omega⟩]
    rw [hV] at hts
    obtain ⟨ts, hts⟩ := hts
    have htn := hts.n
    have hb4 := hb3.trans (hb34.mono hb3.size)
    have hcl : (classV LL m.toNat).length ≤ 46656 := classV_len (by omega)
    refine spec_RuleUpTo.L9_rule _ _ _ _ _ _ _ _ (I := fun rule k w' => 0 ≤ k ∧ k ≤ (classV LL m.toNat).length ∧ Below w.heap.size w w' ∧ OwnRows w' w3.heap.size t ts (classV LL m.toNat) ∧ (∀ g, rule.blk = some g → ¬ foot t ts g) ∧
        ∃ rs R, RW w' w.heap.size rule rs R ∧ Told (ents LL m.toNat ++ ((classV LL m.toNat).take k.toNat).map (ent LL)) R) (μ := fun _ k _ => ((classV LL m.toNat).length - k).toNat)
      ⟨by omega, by omega, hb4, hts, fun g hg hf => by have := (hRW.out.lt g hg).2; have := (hts.footLt hf).1; omega, rs, R, hRW.grow hb34, by simpa using hT⟩ ?_
    rintro rule k w5 ⟨hk0, hk, hb5, hts5, hap, rs, R, hRW, hT⟩
    rw [spec_RuleUpTo.B9_s, htn]
    refine bif_dec (fun h4 => ?_) (fun h4 => ?_)
    · have hlt : k.toNat < (classV LL m.toNat).length := by omega
      refine drew_intro fun w6 hd6 => ?_
      have hRW6 := hRW.heap hd6.heap'
      have hts6 := hts5.heap hd6.heap'
      have hb6 := hb5.trans (hd6.below _)
      obtain ⟨P, hPe⟩ : ∃ P, P = (classV LL m.toNat)[k.toNat] := ⟨_, rfl⟩
      have hPm : P ∈ classV LL m.toNat := by rw [hPe]; exact List.getElem_mem hlt
      have hPl := class_pl hPm
      have hin := class_InCl hBa (by omega) hPm
      have hCV : ChildLabelsV LL P = labsV LL (childrenV LL P) := by rw [ChildLabelsV, if_pos ⟨hin, by omega⟩]
      have hcl2 := childrenV_len LL P
      have fin : ∀ (x : Sl) (w7 : World), Below w6.heap.size w6 w7 → OwnI w7 w6.heap.size x (ent LL P) → ∀ K Q, (∀ rule' w8, (0 ≤ k + 1 ∧ k + 1 ≤ (classV LL m.toNat).length ∧ Below w.heap.size w w8 ∧ OwnRows w8 w3.heap.size t ts (classV LL m.toNat) ∧ (∀ g, rule'.blk = some g → ¬ foot t ts g) ∧
            ∃ rs R, RW w8 w.heap.size rule' rs R ∧ Told (ents LL m.toNat ++ ((classV LL m.toNat).take (k + 1).toNat).map (ent LL)) R) → K (spec_RuleUpTo.emb9 l n rule' m t (k + 1)) w8) →
          (∀ (o : Sl) w8, RuleUpToV1 LL n = false → RuleUpToV LL n = [] → RowSS w8 o [] → Below w.heap.size w w8 → Q .ret [(4, Sl.v o), (5, .bool false)] w8) → spec_RuleUpTo.J12 std l n rule m t k x w7 K Q := by
        intro x w7 hb67 hx K Q hK hQ
        rw [spec_RuleUpTo.J12_s]
        have hRW7 := hRW6.grow hb67
        have hmemE : ∀ Y ∈ R, Y ∈ ents LL (n.toNat + 1) := fun Y hY => by
          rcases List.mem_append.1 ((hT.2 Y).1 hY) with h | h
          · obtain ⟨m', p, hm', hp, rfl⟩ := ents_mem h
            exact ents_mem_of (by omega) hp
          · obtain ⟨p, hp, rfl⟩ := List.mem_map.1 h
            exact ents_mem_of (by omega) (List.mem_of_mem_take hp)
        have hf : ∀ Y ∈ R, Y ≠ [] ∧ Y.length ≤ 8 := fun Y hY => by
          have := ent_facts (n := n.toNat + 1) (by omega) (hmemE Y hY)
          exact ⟨this.2.2.2, this.2.2.1⟩
        have hsh := str_short hT.1 fun z hz => by
          have := ent_facts (n := n.toNat + 1) (by omega) (hmemE z hz)
          exact ⟨this.1, this.2.1⟩
        have hb7 := hb6.trans (hb67.mono hb6.size)
        refine (c_l15Add hRW7 hb7.size (hx.mono hb6.size) (by simp [ent]) (fun Y hY => (hf Y hY).1) hT.1 (by omega) (fun Y hY => by have := (hf Y hY).2; omega)).mono ?_
        rintro e w8 ⟨s', rs', R', ok, rfl, hRW8, hst, hres⟩
        refine ⟨s', ok, rfl, ?_⟩
        have hb8 : Below w.heap.size w w8 := hb7.trans (hst.below (fun g hg => (hRW7.out.lt g hg).1) hb7.size)
        have hts7 := hts6.grow hb67
        rcases hres with ⟨rfl, hS', hm'⟩ | ⟨rfl, Y, hY, hYX, hne⟩
        · refine bif_f rfl ?_
          rw [w64_succ hk0 (by omega)]
          refine hK s' w8 ⟨by omega, by omega, hb8, hts7.keepsF hst.keeps (fun g h1 h2 => hap g h2 h1), hst.apart (fun g hg => (hts7.footLt hg).2) hap, rs', R', hRW8, hS', fun Z => ?_⟩
          rw [show (k + 1).toNat = k.toNat + 1 by omega, List.take_succ_eq_append_getElem hlt, ← hPe, hm', hT.2]
          simp only [List.map_append, List.mem_append, List.map_cons, List.map_nil, List.mem_singleton]
          rw [or_assoc]
        · refine bif_t rfl ?_
          refine lit0 oneSint (B := w8.heap.size) (Nat.le_refl _) ?_
          intro o w9 ho9 hg9 _
          have hno := not_told (hmemE Y hY) (ents_mem_of (LL := LL) (n := n.toNat + 1) (m := m.toNat) (p := P) (by omega) hPm) hYX hne
          obtain ⟨h1, h2⟩ := told_no (LL := LL) (n := n) (fun hh => hno hh.2.2.2)
          exact hQ o w9 h1 h2 (OwnRows.nil ho9).row (hb8.trans ((below_of_grow hg9).mono hb8.size))
      have hK : ∀ rule' w8, (0 ≤ k + 1 ∧ k + 1 ≤ (classV LL m.toNat).length ∧ Below w.heap.size w w8 ∧ OwnRows w8 w3.heap.size t ts (classV LL m.toNat) ∧ (∀ g, rule'.blk = some g → ¬ foot t ts g) ∧
            ∃ rs R, RW w8 w.heap.size rule' rs R ∧ Told (ents LL m.toNat ++ ((classV LL m.toNat).take (k + 1).toNat).map (ent LL)) R) → (fun e2 w' => ∃ rule_n k_n, e2 = spec_RuleUpTo.emb9 l n rule_n m t k_n ∧ (0 ≤ k_n ∧ k_n ≤ (classV LL m.toNat).length ∧ Below w.heap.size w w' ∧ OwnRows w' w3.heap.size t ts (classV LL m.toNat) ∧ (∀ g, rule_n.blk = some g → ¬ foot t ts g) ∧
        ∃ rs R, RW w' w.heap.size rule_n rs R ∧ Told (ents LL m.toNat ++ ((classV LL m.toNat).take k_n.toNat).map (ent LL)) R) ∧ ((classV LL m.toNat).length - k_n).toNat < ((classV LL m.toNat).length - k).toNat) (spec_RuleUpTo.emb9 l n rule' m t (k + 1)) w8 :=
        fun rule' w8 h => ⟨rule', k + 1, rfl, h, by omega⟩
      -- the parts
      have hS : ∀ {w7 : World} {r : Sl}, Below w6.heap.size w6 w7 → RowI w7 r P → Calls PP F.spec_l14Sites #[l.v, r.v] w7 fun e w8 => ∃ u : Sl, e = .returned u.v ∧ (u.n : Int) = siteN LL P ∧ Below w6.heap.size w6 w8 ∧ Below w7.heap.size w7 w8 := fun {w7 r} hb67 hr =>
        (c_l14Sites ((hl.grow hb6).grow hb67) hBa hr (by omega)).mono fun e w8 ⟨u, he, hu, hb⟩ => ⟨u, he, by have := hu.n; rw [List.length_map] at this; rw [siteN, this], hb67.trans (hb.mono hb67.size), hb⟩
      have hC : ∀ {w7 : World} {r : Sl}, Below w6.heap.size w6 w7 → RowI w7 r P → Calls PP F.spec_ChildLabels #[l.v, r.v] w7 fun e w8 => ∃ u : Sl, e = .returned u.v ∧ RowI w8 u (labsV LL (childrenV LL P)) ∧ Below w6.heap.size w6 w8 ∧ Below w7.heap.size w7 w8 := fun {w7 r} hb67 hr =>
        (c_specChildLabels ((hl.grow hb6).grow hb67) hL ht hr (by omega)).mono fun e w8 ⟨u, he, hu, hb⟩ => ⟨u, he, by rw [← hCV]; exact hu, hb67.trans (hb.mono hb67.size), hb⟩
      have hA : ∀ {w7 : World} {x u : Sl} {K : Sl → World → Prop}, Below w6.heap.size w6 w7 → OwnI w7 w6.heap.size x [siteN LL P] → RowI w7 u (labsV LL (childrenV LL P)) → (∀ x' w8, Below w6.heap.size w6 w8 → OwnI w8 w6.heap.size x' (ent LL P) → K x' w8) →
          sem1 .sl PP (Builtin.append_ #[T_Sint, T_Sint] T_Sint #[Sl.v x, Sl.v u]) w7 K := fun {w7 x u K} hb67 hx hu hk => by
        refine append_row oneInt hx hb67.size hu vI_one' (by rw [List.length_map, List.length_map, labsV_length]; simp; omega) ?_
        intro x' w8 hx' hg8 _ _
        rw [← List.map_append] at hx'
        exact hk x' w8 (hb67.grown hg8 hb67.size (fun g hg => (hx.lt g hg).1)) hx'
      have hQ := fun (o : Sl) (w8 : World) (h1 : RuleUpToV1 LL n = false) (h2 : RuleUpToV LL n = []) (h3 : RowSS w8 o []) (h4 : Below w.heap.size w w8) =>
        (show spec_RuleUpTo.q15 std (fun e2 w' => ∃ rule_n m_n, e2 = spec_RuleUpTo.emb5 l n rule_n m_n ∧ (0 ≤ m_n ∧ m_n ≤ n + 1 ∧ Below w.heap.size w w' ∧ ∃ rs R, RW w' w.heap.size rule_n rs R ∧ Told (ents LL m_n.toNat) R) ∧ (n + 1 - m_n).toNat < (n + 1 - m).toNat) (spec_RuleUpTo.q10 std (fun e w' => ∃ s : Sl, e = .returned (.tuple #[s.v, .bool (RuleUpToV1 LL n)]) ∧ RowSS w' s (RuleUpToV LL n) ∧ Below w.heap.size w w')) .ret [(4, Sl.v o), (5, .bool false)] w8 by
          rw [spec_RuleUpTo.R9_s, spec_RuleUpTo.R5_s]
          exact ⟨o, by rw [h1], by rw [h2]; exact h3, h4⟩)
      have hrow6 := hts6.row
      refine RowSS.place hrow6 hk0 (by omega) fun a20 r20 hc20 hr20 => ?_
      refine RowSS.place hrow6 hk0 (by omega) fun a21 r21 hc21 hr21 => ?_
      rw [getD_SS hlt, ← hPe] at hr20 hr21
      have one : ∀ {w7 : World} {K : Sl → World → Prop}, Below w6.heap.size w6 w7 → (∀ x w8, Below w6.heap.size w6 w8 → Below w7.heap.size w7 w8 → OwnI w8 w6.heap.size x [siteN LL P] → K x w8) → sem1 .sl PP (Instr.buildSlice T_Sint 1 #[(0, vI (siteN LL P))]) w7 K := fun {w7 K} hb67 hk =>
        make_ent hb67.size fun x w8 hx hb78 _ => hk x w8 (hb67.trans (hb78.mono hb67.size)) hb78 hx
      have b0 := Below.refl w6.heap.size w6
      have T1 : ∀ {w7 : World} {r : Sl}, Below w6.heap.size w6 w7 → RowI w6 r P → ∀ K Q, (∀ x w9, Below w6.heap.size w6 w9 → OwnI w9 w6.heap.size x (ent LL P) → spec_RuleUpTo.J12 std l n rule m t k x w9 K Q) →
          sem1 .sl PP (Instr.buildSlice T_Sint 1 #[(0, vI (siteN LL P))]) w7 fun (ρ25 : Sl) ω26 => call1 .sl PP F.spec_ChildLabels #[Sl.v l, Sl.v r] ω26 fun (ρ28 : Sl) ω29 => sem1 .sl PP (Builtin.append_ #[T_Sint, T_Sint] T_Sint #[Sl.v ρ25, Sl.v ρ28]) ω29 fun (ρ30 : Sl) ω31 =>
          spec_RuleUpTo.J12 std l n rule m t k ρ30 ω31 K Q := fun {w7 r} hb67 hr K Q hJ => by
        refine one hb67 fun x w8 hb8 _ hx => ?_
        refine (hC hb8 (hr.grow hb8)).mono ?_
        rintro e w9 ⟨u, rfl, hu, hb9, hb89⟩
        exact ⟨u, rfl, hA hb9 (Own.grow hx hb89) hu fun x' w10 hb10 hx' => hJ x' w10 hb10 hx'⟩
      have T2 : ∀ {w7 : World} {r : Sl}, Below w6.heap.size w6 w7 → RowI w6 r P → ∀ K Q, (∀ x w9, Below w6.heap.size w6 w9 → OwnI w9 w6.heap.size x (ent LL P) → spec_RuleUpTo.J12 std l n rule m t k x w9 K Q) →
          call1 .sl PP F.spec_ChildLabels #[Sl.v l, Sl.v r] w7 fun (ρ28 : Sl) ω29 => sem1 .sl PP (Instr.buildSlice T_Sint 1 #[(0, vI (siteN LL P))]) ω29 fun (ρ25 : Sl) ω26 => sem1 .sl PP (Builtin.append_ #[T_Sint, T_Sint] T_Sint #[Sl.v ρ25, Sl.v ρ28]) ω26 fun (ρ30 : Sl) ω31 =>
          spec_RuleUpTo.J12 std l n rule m t k ρ30 ω31 K Q := fun {w7 r} hb67 hr K Q hJ => by
        refine (hC hb67 (hr.grow hb67)).mono ?_
        rintro e w9 ⟨u, rfl, hu, hb9, hb89⟩
        refine ⟨u, rfl, ?_⟩
        refine one hb9 fun x w8 hb8 hb98 hx => ?_
        exact hA hb8 hx (hu.grow hb98) fun x' w10 hb10 hx' => hJ x' w10 hb10 hx'
      refine ⟨load_sl hc20 ⟨?_, load_sl hc21 ?_⟩, load_sl hc21 (K := fun ξ65 => load1 .sl a20 w6 _) (load_sl hc20 ?_)⟩
      · refine (hS b0 hr20).mono ?_
        rintro e w7 ⟨u, rfl, hu, hb7, _⟩
        refine ⟨u, rfl, ?_⟩
        simp only [hu]
        refine ⟨?_, load_sl (cell_grow hc21 hb7) ⟨T1 hb7 hr21 _ _ fun x w9 hb9 hx => fin x w9 hb9 hx _ _ hK hQ, T2 hb7 hr21 _ _ fun x w9 hb9 hx => fin x w9 hb9 hx _ _ hK hQ⟩⟩
        refine one hb7 fun x w8 hb8 _ hx => ?_
        refine load_sl (cell_grow hc21 hb8) ?_
        refine (hC hb8 (hr21.grow hb8)).mono ?_
        rintro e w9 ⟨u, rfl, hu, hb9, hb89⟩
        exact ⟨u, rfl, hA hb9 (Own.grow hx hb89) hu fun x' w10 hb10 hx' => fin x' w10 hb10 hx' _ _ hK hQ⟩
      · refine (hS b0 hr20).mono ?_
        rintro e w7 ⟨u, rfl, hu, hb7, _⟩
        refine ⟨u, rfl, ?_⟩
        simp only [hu]
        exact ⟨T1 hb7 hr21 _ _ fun x w9 hb9 hx => fin x w9 hb9 hx _ _ hK hQ, T2 hb7 hr21 _ _ fun x w9 hb9 hx => fin x w9 hb9 hx _ _ hK hQ⟩
      · refine (hS b0 hr20).mono ?_
        rintro e w7 ⟨u, rfl, hu, hb7, _⟩
        refine ⟨u, rfl, ?_⟩
        simp only [hu]
        exact ⟨T1 hb7 hr21 _ _ fun x w9 hb9 hx => fin x w9 hb9 hx _ _ hK hQ, T2 hb7 hr21 _ _ fun x w9 hb9 hx => fin x w9 hb9 hx _ _ hK hQ⟩
    · rw [spec_RuleUpTo.A9_2_s]
      have e : k.toNat = (classV LL m.toNat).length := by omega
      rw [e, List.take_length, ← ents_succ] at hT
      refine ⟨rule, m + 1, by rw [w64_succ hm0 (by omega)], ⟨by omega, by omega, hb5, rs, R, hRW, ?_⟩, by omega⟩
      rw [show (m + 1).toNat = m.toNat + 1 by omega]; exact hT
  · rw [spec_RuleUpTo.A5_0_s]
    have e : m.toNat = n.toNat + 1 := by omega
    rw [e] at hT
    obtain ⟨h1, h2⟩ := told_V hBa hn5.1 hn5.2 hT
    exact ⟨rule, by rw [h1], by rw [h2]; exact hRW.rows, hb3⟩
end Go.Proofs.Ytmhgjfahgemblaa

/- RuleUpTo: the program's text. -/
namespace Go.Proofs.Ytmhgjfahgemblaa
open Go Go.RowKit
set_option maxRecDepth 100000

theorem nodup_heads {T : List EntI} (h : (T.map (·.1)).Nodup) : ((T.map rowE).map hd).Nodup := by
  rw [List.map_map]; exact h
/-- What a map tells of a list of rows. -/
def Tells (E : List (List Int)) (T : List EntI) : Prop := ∀ Z, Z ∈ T.map rowE ↔ Z ∈ E
theorem tells_len {LL : List (List Int)} {E : List (List Int)} {T : List EntI} {n : Nat} (hn : n ≤ 6) (hE : ∀ z ∈ E, z ∈ ents LL n) (hk : (T.map (·.1)).Nodup) (h : Tells E T) : T.length ≤ 7 := by
  -- seven heads at most
  have h1 : ∀ t ∈ T, 0 ≤ t.1 ∧ t.1 ≤ 6 := fun t ht => by
    have := ent_facts hn (hE _ ((h (rowE t)).1 (List.mem_map.2 ⟨t, ht, rfl⟩)))
    exact ⟨this.1, this.2.1⟩
  have h2 : T.map (·.1) ⊆ ((List.range 7).map fun (i : Nat) => (i : Int)) := fun x hx => by
    obtain ⟨t, ht, rfl⟩ := List.mem_map.1 hx
    have := h1 t ht
    exact List.mem_map.2 ⟨t.1.toNat, List.mem_range.2 (by omega), by omega⟩
  have := List.Nodup.length_le_of_subset hk h2
  simpa using this
theorem perm_told {E R : List (List Int)} {T : List EntI} (h : Tells E T) (hp : R.Perm (T.map rowE)) (hS : Str R) : Told E R := ⟨hS, fun Z => (hp.mem_iff).trans (h Z)⟩
theorem perm_idx {T : List EntI} {I : List Nat} (hn : I.Nodup) (hl : ∀ i ∈ I, i < T.length) (ha : ∀ i, i < T.length → i ∈ I) : (I.map fun i => rowE (T.getD i (0, Sl.nil, []))).Perm (T.map rowE) := by
  have h1 : I.Perm (List.range T.length) := (List.perm_ext_iff_of_nodup hn List.nodup_range).2 fun i => ⟨fun h => List.mem_range.2 (hl i h), fun h => ha i (List.mem_range.1 h)⟩
  have h2 := h1.map fun i => rowE (T.getD i (0, Sl.nil, []))
  refine h2.trans (List.Perm.of_eq ?_)
  apply List.ext_getElem
  · simp
  · intro i h3 h4
    simp at h3
    simp [List.getD_eq_getElem?_getD, List.getElem?_eq_getElem h3]
theorem idx_short {T : List EntI} {I : List Nat} (hn : I.Nodup) (hl : ∀ i ∈ I, i < T.length) : I.length ≤ T.length := by
  have := List.Nodup.length_le_of_subset hn (fun i hi => List.mem_range.2 (hl i hi) : I ⊆ List.range T.length)
  simpa using this
theorem c_implRuleUpTo {w : World} {l : Sl} {LL : List (List Int)} (hl : RowSS w l LL) (hL : LL.length < 2^38) (ht : tot LL < 2^37) (n : Int) :
    Calls PP F.impl_RuleUpTo #[l.v, vI n] w fun e w' => ∃ s : Sl, e = .returned (.tuple #[s.v, .bool (RuleUpToV1 LL n)]) ∧ OwnSS w' w.heap.size s (RuleUpToV LL n) ∧ Below w.heap.size w w' := by
  have nilr : ∀ (w1 : World), Below w.heap.size w w1 → RuleUpToV1 LL n = false → RuleUpToV LL n = [] →
      (fun e w' => ∃ s : Sl, e = Ending.returned (.tuple #[s.v, .bool (RuleUpToV1 LL n)]) ∧ OwnSS w' w.heap.size s (RuleUpToV LL n) ∧ Below w.heap.size w w') (.returned (.tuple #[Sl.v Sl.nil, .bool false])) w1 := by
    intro w1 hb1 h1 h2
    exact ⟨Sl.nil, by rw [h1], by rw [h2]; exact OwnSS.none _ _, hb1⟩
  refine impl_RuleUpTo.calls l n ?_
  rw [impl_RuleUpTo.E_s]
  refine (c_implIsBasis hl hL ht).mono ?_
  rintro e w1 ⟨rfl, hb1⟩
  refine ⟨_, rfl, ?_⟩
  refine bif_intro (fun h => ?_) (fun h => ?_)
  · have h : ¬ BasisOk LL := by simpa [IsBasisV] using h
    obtain ⟨h1, h2⟩ := told_no (LL := LL) (n := n) (fun hh => h hh.1)
    exact nilr w1 hb1 h1 h2
  have hBa : BasisOk LL := by simpa [IsBasisV] using h
  refine bif_dec (fun h => ?_) (fun hn0 => ?_)
  · obtain ⟨h1, h2⟩ := told_no (LL := LL) (n := n) (fun hh => by omega)
    exact nilr w1 hb1 h1 h2
  refine bif_dec (fun h => ?_) (fun hn5 => ?_)
  · obtain ⟨h1, h2⟩ := told_no (LL := LL) (n := n) (fun hh => by omega)
    exact nilr w1 hb1 h1 h2
  refine newI (B := w.heap.size) fun w2 hM2 hb12 => ?_
  have hr1 := hb1.size
  have hb2 := hb1.trans (hb12.mono hb1.size)
  rw [w64_id (by omega) (by omega)]
  refine impl_RuleUpTo.L5_rule _ _ _ _ _ _ (I := fun m w' => 0 ≤ m ∧ m ≤ n + 1 ∧ Below w.heap.size w w' ∧ ∃ T, MapI w' w.heap.size w1.heap.size T ∧ Tells (ents LL m.toNat) T) (μ := fun m _ => (n + 1 - m).toNat)
    ⟨by omega, by omega, hb2, [], hM2, fun Z => by simp [ents]⟩ ?_
  rintro m w3 ⟨hm0, hm, hb3, T, hM, hT⟩
  rw [impl_RuleUpTo.B5_s]
  refine bif_dec (fun h3 => ?_) (fun h3 => ?_)
  · obtain ⟨m, rfl⟩ : ∃ k : Nat, m = k := ⟨m.toNat, by omega⟩
    refine (c_class (hl.grow hb3) hBa m (by omega)).mono ?_
    rintro e w4 ⟨t, rfl, hts, hb34⟩
    refine ⟨t, rfl, ?_⟩
    obtain ⟨ts, hts⟩ := hts
    have htn := hts.n
    have hb4 := hb3.trans (hb34.mono hb3.size)
    have hcl : (classV LL m).length ≤ 46656 := classV_len (by omega)
    rw [Int.toNat_natCast] at hT
    have hrlt := hM.lt
    rw [htn]
    refine impl_RuleUpTo.L8_rule _ _ _ _ _ _ _ _ _ (I := fun k w' => 0 ≤ k ∧ k ≤ (classV LL m).length ∧ Below w.heap.size w w' ∧ OwnRows w' w3.heap.size t ts (classV LL m) ∧
        ∃ T, MapI w' w.heap.size w1.heap.size T ∧ Tells (ents LL m ++ ((classV LL m).take k.toNat).map (ent LL)) T) (μ := fun k _ => ((classV LL m).length - k).toNat)
      ⟨by omega, by omega, hb4, hts, T, hM.grow hb34, by simpa using hT⟩ ?_
    rintro k w5 ⟨hk0, hk, hb5, hts5, T, hM, hT⟩
    rw [impl_RuleUpTo.B8_s]
    refine bif_dec (fun h4 => ?_) (fun h4 => ?_)
    · have hlt : k.toNat < (classV LL m).length := by omega
      obtain ⟨P, hPe⟩ : ∃ P, P = (classV LL m)[k.toNat] := ⟨_, rfl⟩
      have hPm : P ∈ classV LL m := by rw [hPe]; exact List.getElem_mem hlt
      have hPl := class_pl hPm
      have hcl2 := childrenV_len LL P
      refine RowSS.get hts5.row hk0 (by omega) fun r hr => ?_
      rw [getD_SS hlt, ← hPe] at hr
      refine (c_active (hl.grow hb5) hBa hr (by omega)).mono ?_
      rintro e w6 ⟨u, rfl, hu, hb56⟩
      refine ⟨u, rfl, ?_⟩
      have hun : (u.n : Int) = siteN LL P := by have := hu.n; rw [List.length_map] at this; rw [siteN, this]
      simp only [hun]
      have hb6 := hb5.trans (hb56.mono hb5.size)
      refine (c_children (hl.grow hb6) hBa (hr.grow hb56) (by omega)).mono ?_
      rintro e w7 ⟨c, rfl, hc, hb67⟩
      refine ⟨c, rfl, ?_⟩
      have hb57 := hb56.trans (hb67.mono hb56.size)
      have hb7 := hb5.trans (hb57.mono hb5.size)
      refine (c_labels (hl.grow hb7) hBa hc.row (fun q hq => by obtain ⟨i, hi, rfl, _⟩ := childrenV_mem hq; rw [childW_length hi]; omega) (by omega)).mono ?_
      rintro e w8 ⟨x, rfl, hx, hb78⟩
      refine ⟨x, rfl, ?_⟩
      have hb58 := hb57.trans (hb78.mono hb57.size)
      have hb8 := hb5.trans (hb58.mono hb5.size)
      have hM8 := hM.grow hb58
      have hts8 := hts5.grow hb58
      have hx8 : OwnI w8 w.heap.size x (labsV LL (childrenV LL P)) := hx.mono hb7.size
      have hmemE : ∀ Y ∈ T.map rowE, Y ∈ ents LL (n.toNat + 1) := fun Y hY => by
        rcases List.mem_append.1 ((hT Y).1 hY) with h | h
        · obtain ⟨m', p, hm', hp, rfl⟩ := ents_mem h
          exact ents_mem_of (by omega) hp
        · obtain ⟨p, hp, rfl⟩ := List.mem_map.1 h
          exact ents_mem_of (by omega) (List.mem_of_mem_take hp)
      -- the store
      have put : ∀ (w9 : World), Drew w8 w9 → (∀ t ∈ T, t.1 = siteN LL P → t.2.2 = labsV LL (childrenV LL P)) →
          sem0 PP (Instr.mapUpdate T_Mint_Sint (.map (some w1.heap.size)) (vI (siteN LL P)) (Sl.v x)) w9 fun w10 => (fun e2 w' => ∃ k_n, e2 = impl_RuleUpTo.emb8 l (some w1.heap.size) (n + 1) m t (classV LL m).length k_n ∧ (0 ≤ k_n ∧ k_n ≤ (classV LL m).length ∧ Below w.heap.size w w' ∧ OwnRows w' w3.heap.size t ts (classV LL m) ∧ ∃ T, MapI w' w.heap.size w1.heap.size T ∧ Tells (ents LL m ++ ((classV LL m).take k_n.toNat).map (ent LL)) T) ∧ ((classV LL m).length - k_n).toNat < ((classV LL m).length - k).toNat) (impl_RuleUpTo.emb8 l (some w1.heap.size) (n + 1) m t (classV LL m).length (w64 (k + 1))) w10 := by
        intro w9 hd9 hsame
        refine putI (hM8.heap hd9.heap') (siteN LL P) (Own.heap hx8 hd9.heap') hsame fun w10 T' hM10 hg10 hz10 hT' _ => ?_
        rw [w64_succ hk0 (by omega)]
        have hb9 := hb8.trans (hd9.below _)
        refine ⟨k + 1, rfl, ⟨by omega, by omega, hb9.trans ((keeps_grown hg10).below (fun g hg => by cases hg; exact hr1) hb9.size), (hts8.heap hd9.heap').keepsF (keeps_grown hg10) (fun g h1 h2 => by cases h2; have := (hts8.footLt h1).1; omega), T', hM10, fun Z => ?_⟩, by omega⟩
        rw [show (k + 1).toNat = k.toNat + 1 by omega, List.take_succ_eq_append_getElem hlt, ← hPe, hT', hT]
        simp only [List.map_append, List.mem_append, List.map_cons, List.map_nil, List.mem_singleton]
        rw [or_assoc]; rfl
      refine lookI hM8 (siteN LL P) (fun t' ht' hta => ?_) (fun hno => ?_)
      · refine bif_t rfl ?_
        have hlab : t'.2.2.length < 2^39 := by
          have := ent_facts (n := n.toNat + 1) (by omega) (hmemE (rowE t') (List.mem_map.2 ⟨t', ht', rfl⟩))
          have h9 := this.2.2.1
          simp [rowE] at h9; omega
        refine Quiet.call1 (s := .bool) (c_Equal (hM8.own t' ht').row hx8.row hlab) ?_
        intro w9 hd9
        by_cases heq : t'.2.2 = labsV LL (childrenV LL P)
        · refine bif_f (by simp [heq]) ?_
          have hsame : ∀ t2 ∈ T, t2.1 = siteN LL P → t2.2.2 = labsV LL (childrenV LL P) := fun t2 ht2 h2 => ?_
          · exact put w9 hd9 hsame
          have : t2 = t' := by
            obtain ⟨i, hi, rfl⟩ := List.getElem_of_mem ht2
            obtain ⟨j, hj, rfl⟩ := List.getElem_of_mem ht'
            have hp := List.pairwise_iff_getElem.1 hM8.keys
            rcases Nat.lt_trichotomy i j with h7 | h7 | h7
            · exact absurd (by rw [List.getElem_map, List.getElem_map, h2, hta]) (hp i j (by simpa using hi) (by simpa using hj) h7)
            · subst h7; rfl
            · exact absurd (by rw [List.getElem_map, List.getElem_map, h2, hta]) (hp j i (by simpa using hj) (by simpa using hi) h7)
          rw [this]; exact heq
        · refine bif_t (by simp [heq]) ?_
          have hno := not_told (hmemE (rowE t') (List.mem_map.2 ⟨t', ht', rfl⟩)) (ents_mem_of (LL := LL) (n := n.toNat + 1) (m := m) (p := P) (by omega) hPm) (by rw [hd_ent]; exact hta) (fun e => heq (by
            have : rowE t' = ent LL P := e
            simp [rowE, ent] at this; exact this.2))
          obtain ⟨h1, h2⟩ := told_no (LL := LL) (n := n) (fun hh => hno hh.2.2.2)
          rw [impl_RuleUpTo.R8_s, impl_RuleUpTo.R5_s]
          exact nilr w9 (hb8.trans (hd9.below _)) h1 h2
      · refine bif_f rfl ?_
        exact put w8 (Drew.refl _) (fun t' ht' hta => absurd hta (hno t' ht'))
    · rw [impl_RuleUpTo.A8_2_s]
      have e : k.toNat = (classV LL m).length := by omega
      rw [e, List.take_length, ← ents_succ] at hT
      refine ⟨m + 1, by rw [w64_succ hm0 (by omega)], ⟨by omega, by omega, hb5, T, hM, ?_⟩, by omega⟩
      rw [show ((m : Int) + 1).toNat = m + 1 by omega]; exact hT
  · rw [impl_RuleUpTo.A5_0_s]
    have e : m.toNat = n.toNat + 1 := by omega
    rw [e] at hT
    have hTl := tells_len (LL := LL) (n := n.toNat + 1) (by omega) (fun z hz => hz) hM.keys hT
    have hTf : ∀ t ∈ T, (rowE t).length ≤ 8 := fun t' ht' => (ent_facts (n := n.toNat + 1) (by omega) ((hT _).1 (List.mem_map.2 ⟨t', ht', rfl⟩))).2.2.1
    refine lit0 oneSint (B := w3.heap.size) (Nat.le_refl _) ?_
    intro o w4 ho hg4 _
    have hb34 := below_of_grow hg4
    refine range_mapI (hM.grow hb34) fun w5 hR5 hb45 => ?_
    have hb35 := hb34.trans (hb45.mono hb34.size)
    have hitge : w3.heap.size ≤ w4.heap.size := hb34.size
    have cellsO : ∀ {w' : World} {out : Sl} {rs : List Sl} {R : List (List Int)} {B : Nat}, OwnRows w' B out rs R → ∀ g, foot out rs g → ∃ cur e, w'.heap[g]? = some (.cells cur e (0, 0)) := fun hO g hf => by
      rcases hf with hf | ⟨r, hr, hf⟩
      · obtain ⟨cur, h⟩ := hO.out.heapAt hf; exact ⟨cur, _, h⟩
      · obtain ⟨L, _, ho⟩ := hO.own hr
        obtain ⟨cur, h⟩ := ho.heapAt hf; exact ⟨cur, _, h⟩
    refine impl_RuleUpTo.L20_rule _ _ _ _ (I := fun out w' => ∃ (I : List Nat) (rs : List Sl), Ran w' w.heap.size w4.heap.size w1.heap.size T I ∧ OwnRows w' w3.heap.size out rs (I.map fun i => rowE (T.getD i (0, Sl.nil, []))) ∧ Below w3.heap.size w3 w') (μ := fun out _ => T.length - out.n)
      ⟨[], [], hR5, (OwnRows.nil ho).grow hb45, hb35⟩ ?_
    rintro out w6 ⟨I, rs, hR, hO, hb6⟩
    have hon := hO.n
    rw [List.length_map] at hon
    have hIl := idx_short hR.nd hR.lt
    have hmemT : ∀ i ∈ I, T.getD i (0, Sl.nil, []) ∈ T := fun i hi => by
      have := hR.lt i hi
      rw [List.getD_eq_getElem?_getD, List.getElem?_eq_getElem this]; exact List.getElem_mem this
    rw [impl_RuleUpTo.B20_s]
    refine next_mapI hR (fun hall => ?_) (fun i t' w7 hti hni hR7 hg7 hz7 hent => ?_)
    · rw [impl_RuleUpTo.A20_4_s]
      have hpi := perm_idx hR.nd hR.lt hall
      refine c_SortF hO (by rw [List.length_map]; omega) (fun L hLm => ?_) ((hpi.map hd).nodup_iff.2 (nodup_heads hR.map.keys)) fun w7 rs' R' hO' hS hp hb67 => ?_
      · obtain ⟨i, hi, rfl⟩ := List.mem_map.1 hLm
        have := hTf _ (hmemT i hi)
        exact ⟨by omega, by simp [rowE]⟩
      · obtain ⟨h1, h2⟩ := told_V hBa (by omega) (by omega) (perm_told hT (hp.trans hpi) hS)
        exact ⟨out, by rw [h1], ⟨rs', by rw [h2]; exact hO'.mono hb3.size⟩, hb3.trans ((hb6.trans hb67).mono hb3.size)⟩
    · refine ⟨_, _, _, hent, ?_⟩
      have hrit : ∀ g, foot out rs g → g ≠ w4.heap.size := fun g hf e => by
        obtain ⟨cur, ty, hc⟩ := cellsO hO g hf
        obtain ⟨es, clock, since, seen, c0, _, _, _, hit, _⟩ := hR.it
        rw [e, hit] at hc; cases hc
      have hO7 := hO.keepsF (keeps_grown hg7) (fun g h1 h2 => hrit g h1 (by cases h2; rfl))
      have hb7 : Below w3.heap.size w3 w7 := hb6.trans ((keeps_grown hg7).below (fun g e => by cases e; exact hitge) hb6.size)
      have hmt : t' ∈ T := List.mem_of_getElem? hti
      refine make_ent hb7.size fun x w8 hx hb78 hxn => ?_
      have htl := hTf t' hmt
      have htl2 : t'.2.2.length ≤ 8 := by simp [rowE] at htl; omega
      have hb8 := hb7.trans (hb78.mono hb7.size)
      refine append_row oneInt hx hb8.size ((hR7.map.own t' hmt).row.grow hb78) vI_one' (by rw [List.length_map, List.length_map]; simp; omega) ?_
      intro x2 w9 hx2 hg9 hn9 _
      rw [← List.map_append] at hx2
      have hx2 : OwnI w9 w3.heap.size x2 (rowE t') := hx2
      have hb79 : Below w7.heap.size w7 w9 := hb78.grown hg9 hb78.size (fun g hg => hxn g hg)
      have hb9 := hb7.trans (hb79.mono hb7.size)
      have hO9 := hO7.grow hb79
      have hx2n : ∀ g, x2.blk = some g → w7.heap.size ≤ g := fun g hg => by
        rcases hn9 g hg with h | h
        · exact hxn g h
        · have := hb78.size; omega
      refine append_sl hO9 hb9.size hx2 (fun t ht => Apt.of_lt (fun g hg => (hO7.lt ht hg).2) hx2n) (by rw [List.length_map]; omega) ?_
      intro out' w10 hO10 hg10 hn10
      have hR9 : Ran w9 w.heap.size w4.heap.size w1.heap.size T (I ++ [i]) := hR7.keeps (S := fun _ => False) ((keeps_grown (grow_of_below hb79)).mono fun _ e => (by cases e)) id id fun _ _ _ _ => id
      have hne : ∀ g, out.blk = some g → g ≠ w4.heap.size ∧ g ≠ w1.heap.size := fun g hg => ⟨hrit g (.inl hg), fun e => by
        obtain ⟨cur, ty, hc⟩ := cellsO hO g (.inl hg)
        obtain ⟨es, clock, hm, _⟩ := hR.map.obj
        rw [e, hm] at hc; cases hc⟩
      have hgd : T.getD i (0, Sl.nil, []) = t' := by rw [List.getD_eq_getElem?_getD, hti]; rfl
      have hO10 : OwnRows w10 w3.heap.size out' (rs ++ [x2]) ((I ++ [i]).map fun i => rowE (T.getD i (0, Sl.nil, []))) := by
        rw [List.map_append, List.map_cons, List.map_nil, hgd]; exact hO10
      have hI2 := idx_short hR7.nd hR7.lt
      refine ⟨out', rfl, ⟨I ++ [i], rs ++ [x2], hR9.keeps (keeps_grown hg10) (fun e => (hne _ e).1 rfl) (fun e => (hne _ e).2 rfl) (fun t2 ht2 g h1 h2 => (hO9.out.apt (hR9.map.own t2 ht2) (by decide)) g h2 h1), hO10, hb9.trans ((keeps_grown hg10).below (fun g hg => (hO9.out.lt g hg).1) hb9.size)⟩, ?_⟩
      have hon' := hO10.n
      rw [List.length_map, List.length_append] at hon'
      rw [List.length_append] at hI2
      simp at hon' hI2
      omega
end Go.Proofs.Ytmhgjfahgemblaa

/- RuleUpTo: the law. -/
namespace Go.Proofs.Ytmhgjfahgemblaa
open Go Go.RowKit
set_option maxRecDepth 100000

theorem lawC_FnExactRuleUpTo (a0 : Sl) (L0 : List (List Int)) (k1 : Int) (hk1 : -9223372036854775808 ≤ k1 ∧ k1 ≤ 9223372036854775807) (w : World) (ha0 : RowSS w a0 L0) (hbd0 : L0.length ≤ maxLen ∧ ∀ M ∈ L0, M.length ≤ maxLen ∧ ∀ x ∈ M, -9223372036854775808 ≤ x ∧ x ≤ 9223372036854775807) :
    Calls PP F.laws_FnExactRuleUpTo #[a0.v, vI k1] w fun e w' => e = .returned (.bool true) ∧ Below w.heap.size w w' := by
  have han0 := ha0.n
  refine laws_FnExactRuleUpTo.calls a0 k1 ?_
  rw [laws_FnExactRuleUpTo.E_s]
  have b_0_0 : Below w.heap.size w w := Below.refl _ _
  refine Quiet.call1 (s := .int .i64) (c_szIntSS (ha0.grow b_0_0) hbd0.1 (fun M hM => (hbd0.2 M hM).1) (left := 1048576) (by omega) (by omega)) ?_
  intro w1 hd1
  have s_0 : Below w.heap.size w w1 := hd1.below _
  have b_0_1 := b_0_0.trans (s_0.mono b_0_0.size)
  refine bif_dec (fun h => ⟨rfl, b_0_1⟩) (fun hsz0 => ?_)
  obtain ⟨hz0, ez0⟩ := szW_ok (LL := L0) (by omega) hsz0
  have hn0 : L0.length < 2^38 := by omega
  have htt0 : tot L0 < 2^38 := by omega
  have b_1_1 : Below w1.heap.size w1 w1 := Below.refl _ _
  refine (c_toIntSS (ha0.grow b_0_1) hn0 htt0).mono ?_
  rintro e w2 ⟨xw0, rfl, ⟨rsxw0, hxw0⟩, s_1⟩
  refine ⟨xw0, rfl, ?_⟩
  have b_0_2 := b_0_1.trans (s_1.mono b_0_1.size)
  have b_1_2 := b_1_1.trans (s_1.mono b_1_1.size)
  have b_2_2 : Below w2.heap.size w2 w2 := Below.refl _ _
  refine (c_specRuleUpTo (hxw0.row.grow b_2_2) (by omega) (by omega) k1).mono ?_
  rintro e w3 ⟨u0, rfl, hu0, s_2⟩
  refine ⟨u0, _, rfl, ?_⟩
  have b_0_3 := b_0_2.trans (s_2.mono b_0_2.size)
  have b_1_3 := b_1_2.trans (s_2.mono b_1_2.size)
  have b_2_3 := b_2_2.trans (s_2.mono b_2_2.size)
  have b_3_3 : Below w3.heap.size w3 w3 := Below.refl _ _
  refine (c_toIntSS (ha0.grow b_0_3) hn0 htt0).mono ?_
  rintro e w4 ⟨xx0, rfl, ⟨rsxx0, hxx0⟩, s_3⟩
  refine ⟨xx0, rfl, ?_⟩
  have b_0_4 := b_0_3.trans (s_3.mono b_0_3.size)
  have b_1_4 := b_1_3.trans (s_3.mono b_1_3.size)
  have b_2_4 := b_2_3.trans (s_3.mono b_2_3.size)
  have b_3_4 := b_3_3.trans (s_3.mono b_3_3.size)
  have b_4_4 : Below w4.heap.size w4 w4 := Below.refl _ _
  refine (c_implRuleUpTo (hxx0.row.grow b_4_4) (by omega) (by omega) k1).mono ?_
  rintro e w5 ⟨g0, rfl, ⟨rsg0, hg0⟩, s_4⟩
  refine ⟨g0, _, rfl, ?_⟩
  have b_0_5 := b_0_4.trans (s_4.mono b_0_4.size)
  have b_1_5 := b_1_4.trans (s_4.mono b_1_4.size)
  have b_2_5 := b_2_4.trans (s_4.mono b_2_4.size)
  have b_3_5 := b_3_4.trans (s_4.mono b_3_4.size)
  have b_4_5 := b_4_4.trans (s_4.mono b_4_4.size)
  have b_5_5 : Below w5.heap.size w5 w5 := Below.refl _ _
  have hv0 := RuleUpToV_len L0 k1
  refine Quiet.call1 (s := .bool) (c_eqIntSS (hg0.row.grow b_5_5) (hu0.grow b_3_5) (by omega) (by omega)) ?_
  intro w6 hd6
  have s_5 : Below w5.heap.size w5 w6 := hd6.below _
  have b_0_6 := b_0_5.trans (s_5.mono b_0_5.size)
  have b_1_6 := b_1_5.trans (s_5.mono b_1_5.size)
  have b_2_6 := b_2_5.trans (s_5.mono b_2_5.size)
  have b_3_6 := b_3_5.trans (s_5.mono b_3_5.size)
  have b_4_6 := b_4_5.trans (s_5.mono b_4_5.size)
  have b_5_6 := b_5_5.trans (s_5.mono b_5_5.size)
  refine bif_f (by simp) ?_
  refine bif_f (by simp) ?_
  have b_6_6 : Below w6.heap.size w6 w6 := Below.refl _ _
  refine (c_toIntSS (ha0.grow b_0_6) hn0 htt0).mono ?_
  rintro e w7 ⟨y0, rfl, hy0, s_6⟩
  refine ⟨y0, rfl, ?_⟩
  have b_0_7 := b_0_6.trans (s_6.mono b_0_6.size)
  have b_1_7 := b_1_6.trans (s_6.mono b_1_6.size)
  have b_2_7 := b_2_6.trans (s_6.mono b_2_6.size)
  have b_3_7 := b_3_6.trans (s_6.mono b_3_6.size)
  have b_4_7 := b_4_6.trans (s_6.mono b_4_6.size)
  have b_5_7 := b_5_6.trans (s_6.mono b_5_6.size)
  have b_6_7 := b_6_6.trans (s_6.mono b_6_6.size)
  refine Quiet.call1 (s := .bool) (c_eqIntSS (hxx0.row.grow b_4_7) hy0.row (by omega) (by omega)) ?_
  intro w8 hd8
  have s_7 : Below w7.heap.size w7 w8 := hd8.below _
  have b_0_8 := b_0_7.trans (s_7.mono b_0_7.size)
  have b_1_8 := b_1_7.trans (s_7.mono b_1_7.size)
  have b_2_8 := b_2_7.trans (s_7.mono b_2_7.size)
  have b_3_8 := b_3_7.trans (s_7.mono b_3_7.size)
  have b_4_8 := b_4_7.trans (s_7.mono b_4_7.size)
  have b_5_8 := b_5_7.trans (s_7.mono b_5_7.size)
  have b_6_8 := b_6_7.trans (s_7.mono b_6_7.size)
  refine bif_f (by simp) ?_
  have hxx0m := hxx0.grow b_4_8
  have hg0m := hg0.grow b_5_8
  refine (c_markIntSS hxx0m (by omega) (by omega) (k := 1) (by omega) (by omega)).mono ?_
  rintro e w9 ⟨rfl, _, ks_9, hz_9⟩
  refine ⟨_, rfl, ?_⟩
  have lo_9 : ∀ g, (∃ r ∈ rsxx0, r.blk = some g) → w3.heap.size ≤ g := (fun g e => by obtain ⟨r, hr, e⟩ := e; exact (hxx0.lt hr e).1)
  have hi_9 : ∀ g, (∃ r ∈ rsxx0, r.blk = some g) → g < w4.heap.size := (fun g e => by obtain ⟨r, hr, e⟩ := e; exact (hxx0.lt hr e).2)
  have b_0_9 := b_0_8.trans (ks_9.below (B := w.heap.size) (fun g e => Nat.le_trans b_0_3.size (lo_9 g e)) b_0_8.size)
  have b_1_9 := b_1_8.trans (ks_9.below (B := w1.heap.size) (fun g e => Nat.le_trans b_1_3.size (lo_9 g e)) b_1_8.size)
  have b_2_9 := b_2_8.trans (ks_9.below (B := w2.heap.size) (fun g e => Nat.le_trans b_2_3.size (lo_9 g e)) b_2_8.size)
  have b_3_9 := b_3_8.trans (ks_9.below (B := w3.heap.size) (fun g e => Nat.le_trans b_3_3.size (lo_9 g e)) b_3_8.size)
  have hg0m := hg0m.keepsLt ks_9 (fun g e => by have := hi_9 g e; have := b_4_4.size; omega)
  refine bif_dec (fun h => by omega) (fun h => ?_)
  have b_9_9 : Below w9.heap.size w9 w9 := Below.refl _ _
  have hg0 := hg0m
  refine Quiet.call1 (s := .bool) (c_eqIntSS (hg0.row.grow b_9_9) (hu0.grow b_3_9) (by omega) (by omega)) ?_
  intro w10 hd10
  have s_9 : Below w9.heap.size w9 w10 := hd10.below _
  have b_0_10 := b_0_9.trans (s_9.mono b_0_9.size)
  have b_1_10 := b_1_9.trans (s_9.mono b_1_9.size)
  have b_2_10 := b_2_9.trans (s_9.mono b_2_9.size)
  have b_3_10 := b_3_9.trans (s_9.mono b_3_9.size)
  have b_9_10 := b_9_9.trans (s_9.mono b_9_9.size)
  refine bif_f (by simp) ?_
  refine bif_f (by simp) ?_
  have hg0p := hg0.grow b_9_10
  have b_10_10 : Below w10.heap.size w10 w10 := Below.refl _ _
  refine (c_markIntSS hg0p (by omega) (by omega) (k := 1) (by omega) (by omega)).mono ?_
  rintro e w11 ⟨rfl, hq0, ks_11, hz_11⟩
  refine ⟨_, rfl, ?_⟩
  have lo_11 : ∀ g, (∃ r ∈ rsg0, r.blk = some g) → w4.heap.size ≤ g := (fun g e => by obtain ⟨r, hr, e⟩ := e; exact (hg0p.lt hr e).1)
  have b_0_11 := b_0_10.trans (ks_11.below (B := w.heap.size) (fun g e => Nat.le_trans b_0_4.size (lo_11 g e)) b_0_10.size)
  have b_1_11 := b_1_10.trans (ks_11.below (B := w1.heap.size) (fun g e => Nat.le_trans b_1_4.size (lo_11 g e)) b_1_10.size)
  have b_2_11 := b_2_10.trans (ks_11.below (B := w2.heap.size) (fun g e => Nat.le_trans b_2_4.size (lo_11 g e)) b_2_10.size)
  have b_3_11 := b_3_10.trans (ks_11.below (B := w3.heap.size) (fun g e => Nat.le_trans b_3_4.size (lo_11 g e)) b_3_10.size)
  have b_11_11 : Below w11.heap.size w11 w11 := Below.refl _ _
  refine Quiet.call1 (s := .int .i64) (c_heldIntSS (LL := RuleUpToV L0 k1) (hq0.row.grow b_11_11) (by omega) (by omega) (by omega) (by omega)) ?_
  intro w12 hd12
  have s_11 : Below w11.heap.size w11 w12 := hd12.below _
  have b_0_12 := b_0_11.trans (s_11.mono b_0_11.size)
  have b_1_12 := b_1_11.trans (s_11.mono b_1_11.size)
  have b_2_12 := b_2_11.trans (s_11.mono b_2_11.size)
  have b_3_12 := b_3_11.trans (s_11.mono b_3_11.size)
  have b_11_12 := b_11_11.trans (s_11.mono b_11_11.size)
  refine bif_dec (fun h => by omega) (fun h => ?_)
  refine bif_f (by simp) ?_
  have b_12_12 : Below w12.heap.size w12 w12 := Below.refl _ _
  refine (c_toIntSS (ha0.grow b_0_12) hn0 htt0).mono ?_
  rintro e w13 ⟨xv0, rfl, ⟨rsxv0, hxv0⟩, s_12⟩
  refine ⟨xv0, rfl, ?_⟩
  have b_0_13 := b_0_12.trans (s_12.mono b_0_12.size)
  have b_1_13 := b_1_12.trans (s_12.mono b_1_12.size)
  have b_2_13 := b_2_12.trans (s_12.mono b_2_12.size)
  have b_3_13 := b_3_12.trans (s_12.mono b_3_12.size)
  have b_11_13 := b_11_12.trans (s_12.mono b_11_12.size)
  have b_12_13 := b_12_12.trans (s_12.mono b_12_12.size)
  have b_13_13 : Below w13.heap.size w13 w13 := Below.refl _ _
  refine (c_implRuleUpTo (hxv0.row.grow b_13_13) (by omega) (by omega) k1).mono ?_
  rintro e w14 ⟨h0, rfl, ⟨rsh0, hh0⟩, s_13⟩
  refine ⟨h0, _, rfl, ?_⟩
  have b_0_14 := b_0_13.trans (s_13.mono b_0_13.size)
  have b_1_14 := b_1_13.trans (s_13.mono b_1_13.size)
  have b_2_14 := b_2_13.trans (s_13.mono b_2_13.size)
  have b_3_14 := b_3_13.trans (s_13.mono b_3_13.size)
  have b_11_14 := b_11_13.trans (s_13.mono b_11_13.size)
  have b_12_14 := b_12_13.trans (s_13.mono b_12_13.size)
  have b_13_14 := b_13_13.trans (s_13.mono b_13_13.size)
  have b_14_14 : Below w14.heap.size w14 w14 := Below.refl _ _
  refine Quiet.call1 (s := .bool) (c_eqIntSS (hh0.row.grow b_14_14) (hu0.grow b_3_14) (by omega) (by omega)) ?_
  intro w15 hd15
  have s_14 : Below w14.heap.size w14 w15 := hd15.below _
  have b_0_15 := b_0_14.trans (s_14.mono b_0_14.size)
  have b_1_15 := b_1_14.trans (s_14.mono b_1_14.size)
  have b_2_15 := b_2_14.trans (s_14.mono b_2_14.size)
  have b_3_15 := b_3_14.trans (s_14.mono b_3_14.size)
  have b_11_15 := b_11_14.trans (s_14.mono b_11_14.size)
  have b_12_15 := b_12_14.trans (s_14.mono b_12_14.size)
  have b_13_15 := b_13_14.trans (s_14.mono b_13_14.size)
  have b_14_15 := b_14_14.trans (s_14.mono b_14_14.size)
  refine bif_f (by simp) ?_
  refine bif_f (by simp) ?_
  refine Quiet.call1 (s := .int .i64) (c_heldIntSS (LL := RuleUpToV L0 k1) (hq0.row.grow b_11_15) (by omega) (by omega) (by omega) (by omega)) ?_
  intro w16 hd16
  have s_15 : Below w15.heap.size w15 w16 := hd16.below _
  have b_0_16 := b_0_15.trans (s_15.mono b_0_15.size)
  have b_1_16 := b_1_15.trans (s_15.mono b_1_15.size)
  have b_2_16 := b_2_15.trans (s_15.mono b_2_15.size)
  have b_3_16 := b_3_15.trans (s_15.mono b_3_15.size)
  have b_11_16 := b_11_15.trans (s_15.mono b_11_15.size)
  have b_12_16 := b_12_15.trans (s_15.mono b_12_15.size)
  have b_13_16 := b_13_15.trans (s_15.mono b_13_15.size)
  have b_14_16 := b_14_15.trans (s_15.mono b_14_15.size)
  refine bif_dec (fun h => by omega) (fun h => ?_)
  refine bif_f (by simp) ?_
  exact ⟨rfl, b_0_16⟩
end Go.Proofs.Ytmhgjfahgemblaa
