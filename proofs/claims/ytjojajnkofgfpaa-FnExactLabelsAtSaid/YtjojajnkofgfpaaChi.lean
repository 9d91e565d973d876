/- One more number at a site: both texts, and ChildAt's law. -/
import Derived.Test.YtjojajnkofgfpaaCodeCh
import Derived.Test.YtjojajnkofgfpaaIns
import Derived.Test.YtjojajnkofgfpaaL1
import Derived.Test.YtjojajnkofgfpaaLaw2
import Derived.Test.YtjojajnkofgfpaaPermMath
namespace Go.Proofs.Ytjojajnkofgfpaa
open Go Go.RowKit
set_option maxRecDepth 100000

def childW (L : List Int) (i : Nat) : List Int := L.take i ++ ((L.length : Int) + 1) :: L.drop i
theorem childW_length {L : List Int} {i : Nat} (hi : i ≤ L.length) : (childW L i).length = L.length + 1 := by simp [childW]; omega
theorem c_child {w : World} {a : Sl} {L : List Int} (ha : RowI w a L) (hL : L.length < 2^37) {i : Nat} (hi : i ≤ L.length) :
    Calls PP F.impl_child #[a.v, vI i] w fun e w' => ∃ s : Sl, e = .returned s.v ∧ OwnI w' w.heap.size s (childW L i) ∧ Below w.heap.size w w' := by
  have han : a.n = L.length := by have := ha.n; simpa using this
  refine impl_child.calls a i ?_
  rw [impl_child.E_s, han]
  refine (c_Clone ha (by omega)).mono ?_
  rintro e w1 ⟨s, rfl, hs, hb1⟩
  refine ⟨s, rfl, ?_⟩
  rw [w64_succ (n := (L.length : Int)) (by omega) (by omega)]
  refine lit1 oneInt (B := w.heap.size) hb1.size (One.int _) ?_
  intro v w2 hv hg2 hn2
  have hb2 := hb1.grown hg2 hb1.size (by simp)
  have hs2 : OwnI w2 w.heap.size s L := hs.kept hg2 (by simp)
  have hap : Apt v s := fun g e1 e2 => by
    rcases hn2 g e1 with h | h
    · simp [Sl.blk, Sl.nil] at h
    · have := (hs.lt g e2).2; omega
  refine (c_Insert (x := (L.length : Int) + 1) hs2 hb2.size hv hap (by omega) hi).mono ?_
  rintro e w3 ⟨t, rfl, ht, hg3, _⟩
  exact ⟨t, rfl, t, rfl, ht, hb2.grown hg3 hb2.size (fun g hg => (hs2.lt g hg).1)⟩

theorem c_l14Child {w : World} {a : Sl} {L : List Int} (ha : RowI w a L) (hL : L.length < 2^37) {i : Nat} (hi : i ≤ L.length) :
    Calls PP F.spec_l14Child #[a.v, vI i] w fun e w' => ∃ s : Sl, e = .returned s.v ∧ OwnI w' w.heap.size s (childW L i) ∧ Below w.heap.size w w' := by
  have han : a.n = L.length := by have := ha.n; simpa using this
  refine spec_l14Child.calls a i ?_
  rw [spec_l14Child.E_s, han]
  refine drew_intro fun w0 hd => ?_
  have ha0 := ha.heap hd.heap'
  have hbd : Below w.heap.size w w0 := hd.below _
  refine Row.cut ha0 (by simp) (by simp <;> omega) (by simp <;> omega) ?_
  intro s1 hs1
  refine Row.cut ha0 (lo := some (i : Int)) (hi := none) (by simp) (by simp <;> omega) (by simp <;> omega) ?_
  intro s2 hs2
  have q1 : (List.take ((some (i : Int)).getD (a.n : Int)).toNat (L.map vI)).drop ((none : Option Int).getD 0).toNat = (L.take i).map vI := by simp
  have q2 : (List.take ((none : Option Int).getD (a.n : Int)).toNat (L.map vI)).drop ((some (i : Int)).getD 0).toNat = (L.drop i).map vI := by
    simp only [Option.getD_none, Option.getD_some, Int.toNat_natCast]
    rw [List.take_of_length_le (by simp <;> omega), List.map_drop]
  rw [q1] at hs1
  rw [q2] at hs2
  have hsz : w0.heap.size = w.heap.size := by rw [hd.heap']
  rw [w64_succ (n := (L.length : Int)) (by omega) (by omega)]
  have hlt : (L.take i).length < 2^38 ∧ (L.drop i).length < 2^38 := by simp; omega
  -- whatever the order, the three parts are put behind one another
  have fin : ∀ (w2 : World) (t r : Sl), OwnI w2 w.heap.size t [] → OwnI w2 w.heap.size r [(L.length : Int) + 1] → Apt t r → Below w.heap.size w w2 →
      sem1 .sl PP (Builtin.append_ #[T_Sint, T_Sint] T_Sint #[t.v, s1.v]) w2 fun (a : Sl) w3 => sem1 .sl PP (Builtin.append_ #[T_Sint, T_Sint] T_Sint #[a.v, r.v]) w3 fun (b : Sl) w4 => sem1 .sl PP (Builtin.append_ #[T_Sint, T_Sint] T_Sint #[b.v, s2.v]) w4 fun (c : Sl) w5 =>
        ∃ s : Sl, (Ending.returned c.v) = .returned s.v ∧ OwnI w5 w.heap.size s (childW L i) ∧ Below w.heap.size w w5 := by
    intro w2 t r ht hr hap hb2
    have hone : ∀ (M : List Int), ∀ v ∈ M.map vI, One v := fun M v hv => by obtain ⟨y, _, rfl⟩ := List.mem_map.1 hv; exact One.int y
    have hb02 : Below w0.heap.size w0 w2 := ⟨hb2.os.trans hbd.os.symm, hb2.tape.trans hbd.tape.symm, hb2.output.trans hbd.output.symm, by have := hb2.size; omega, fun k hk => by rw [hb2.block k (by omega), hbd.block k (by omega)]⟩
    refine append_row oneInt ht hb2.size (hs1.grow hb02) (hone _) (by simp <;> omega) ?_
    intro a w3 ha hg3 hn3 _
    have ha : OwnI w3 w.heap.size a (L.take i) := by simpa [OwnI] using ha
    have hb3 := hb2.grown hg3 hb2.size (fun g hg => (ht.lt g hg).1)
    have hr3 : OwnI w3 w.heap.size r [(L.length : Int) + 1] := hr.kept hg3 (fun g e1 e2 => hap g e2 e1)
    refine append_row oneInt ha hb3.size hr3.row (hone [_]) (by simp <;> omega) ?_
    intro b w4 hbo hg4 _ _
    have hbo : OwnI w4 w.heap.size b (L.take i ++ [(L.length : Int) + 1]) := by simpa [OwnI] using hbo
    have hb4 := hb3.grown hg4 hb3.size (fun g hg => (ha.lt g hg).1)
    have hb04 : Below w0.heap.size w0 w4 := ⟨hb4.os.trans hbd.os.symm, hb4.tape.trans hbd.tape.symm, hb4.output.trans hbd.output.symm, by have := hb4.size; omega, fun k hk => by rw [hb4.block k (by omega), hbd.block k (by omega)]⟩
    refine append_row oneInt hbo hb4.size (hs2.grow hb04) (hone _) (by simp <;> omega) ?_
    intro c w5 hc hg5 _ _
    exact ⟨c, rfl, by simpa [OwnI, childW] using hc, hb4.grown hg5 hb4.size (fun g hg => (hbo.lt g hg).1)⟩
  refine ⟨?_, ?_⟩
  · refine lit0 oneInt (B := w.heap.size) (by omega) ?_
    intro t w1 ht hg1 hc1
    have hb1 := hbd.grown hg1 hbd.size (by simp)
    have hapt : ∀ r, Apt t r := fun r g e1 _ => by simp [Sl.blk, hc1] at e1
    refine ⟨?_, ?_⟩
    · -- the left part ahead of the number
      have hone : ∀ (M : List Int), ∀ v ∈ M.map vI, One v := fun M v hv => by obtain ⟨y, _, rfl⟩ := List.mem_map.1 hv; exact One.int y
      have hb01 : Below w0.heap.size w0 w1 := below_of_grow hg1
      refine append_row oneInt ht hb1.size (hs1.grow hb01) (hone _) (by simp <;> omega) ?_
      intro a2 w2 ha2 hg2 _ _
      have ha2 : OwnI w2 w.heap.size a2 (L.take i) := by simpa [OwnI] using ha2
      have hb2 := hb1.grown hg2 hb1.size (fun g hg => (ht.lt g hg).1)
      refine append_int ha2 hb2.size (by simp <;> omega) ?_
      intro b w3 hbo hg3 _
      have hb3 := hb2.grown hg3 hb2.size (fun g hg => (ha2.lt g hg).1)
      have hb03 : Below w0.heap.size w0 w3 := ⟨hb3.os.trans hbd.os.symm, hb3.tape.trans hbd.tape.symm, hb3.output.trans hbd.output.symm, by have := hb3.size; omega, fun k hk => by rw [hb3.block k (by omega), hbd.block k (by omega)]⟩
      refine append_row oneInt hbo hb3.size (hs2.grow hb03) (hone _) (by simp <;> omega) ?_
      intro c w4 hc hg4 _ _
      exact ⟨c, rfl, by simpa [OwnI, childW] using hc, hb3.grown hg4 hb3.size (fun g hg => (hbo.lt g hg).1)⟩
    · refine lit1 oneInt (B := w.heap.size) hb1.size (One.int _) ?_
      intro r w2 hr hg2 _
      exact fin w2 t r (ht.kept hg2 (by simp)) hr (hapt r) (hb1.grown hg2 hb1.size (by simp))
  · refine lit1 oneInt (B := w.heap.size) (by omega) (One.int _) ?_
    intro r w1 hr hg1 _
    have hb1 := hbd.grown hg1 hbd.size (by simp)
    refine lit0 oneInt (B := w.heap.size) hb1.size ?_
    intro t w2 ht hg2 hc2
    exact fin w2 t r ht (hr.kept hg2 (by simp)) (fun g e1 _ => by simp [Sl.blk, hc2] at e1) (hb1.grown hg2 hb1.size (by simp))

def ChildOk (L : List Int) (i : Int) : Prop := IsP L ∧ L.length < 8 ∧ 0 ≤ i ∧ i ≤ L.length
open Classical in
noncomputable def ChildAtV (L : List Int) (i : Int) : List Int := if ChildOk L i then childW L i.toNat else []
open Classical in
noncomputable def ChildAtV1 (L : List Int) (i : Int) : Bool := decide (ChildOk L i)
theorem ChildAtV_len (L : List Int) (i : Int) : (ChildAtV L i).length < 2^38 := by
  unfold ChildAtV
  split
  · rename_i h
    obtain ⟨h1, h2, h3, h4⟩ := h
    rw [childW_length (by omega)]; omega
  · simp
end Go.Proofs.Ytjojajnkofgfpaa
