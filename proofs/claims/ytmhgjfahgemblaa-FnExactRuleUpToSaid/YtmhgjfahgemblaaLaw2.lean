/- The laws' helpers that mark a row and look whether the marks stand. -/
import Derived.Test.YtmhgjfahgemblaaLaw1
namespace Go.Proofs.Ytmhgjfahgemblaa
open Go Go.RowKit
set_option maxRecDepth 100000

/-- k, k+1, .. -/
def marks (k : Int) (n : Nat) : List Int := (List.range n).map fun (i : Nat) => k + (i : Int)
theorem marks_length (k : Int) (n : Nat) : (marks k n).length = n := by simp [marks]
theorem marks_getD {k : Int} {n i : Nat} (h : i < n) : (marks k n).getD i 0 = k + i := by simp [marks, List.getD_eq_getElem?_getD, h]
theorem marks_step (L : List Int) (k : Int) {i : Nat} (hi : i < L.length) : (marks k i ++ L.drop i).set i (k + i) = marks k (i + 1) ++ L.drop (i + 1) := by
  have h1 : L.drop i = L[i] :: L.drop (i + 1) := by rw [List.drop_eq_getElem_cons hi]
  have h2 : (marks k i).length = i := marks_length k i
  have h3 : marks k (i + 1) = marks k i ++ [k + (i : Int)] := by simp [marks, List.range_succ]
  rw [h1, List.set_append_right _ _ (by omega), h2, Nat.sub_self, List.set_cons_zero, h3, List.append_assoc]
  rfl

theorem c_markIntS {w : World} {B : Nat} {a : Sl} {L : List Int} (ha : OwnI w B a L) (hL : L.length < 2^38) {k : Int} (hk0 : 0 ≤ k) (hk : k < 2^40) :
    Calls PP F.laws_markIntS #[a.v, vI k] w fun e w' => e = .returned (vI (k + L.length)) ∧ OwnI w' B a (marks k L.length) ∧ w.grownBy w' a.blk ∧ w'.heap.size = w.heap.size := by
  have han : a.n = L.length := by have := ha.n; simpa using this
  refine laws_markIntS.calls a k ?_
  rw [laws_markIntS.E_s]
  refine laws_markIntS.L2_rule _ _ _ _ _ (I := fun m i w' => 0 ≤ i ∧ i ≤ L.length ∧ m = k + i ∧ OwnI w' B a (marks k i.toNat ++ L.drop i.toNat) ∧ w.grownBy w' a.blk ∧ w'.heap.size = w.heap.size) (μ := fun _ i _ => (L.length - i).toNat)
    ⟨by omega, by omega, by omega, by simpa [marks] using ha, ⟨rfl, rfl, rfl, Nat.le_refl _, fun _ _ _ => rfl⟩, rfl⟩ ?_
  rintro m i w' ⟨h0, hi, hm, ho, hg, hsz⟩
  rw [laws_markIntS.B2_s]
  refine bif_dec (fun h3 => ?_) (fun h3 => ?_)
  · have hlt : i.toNat < L.length := by omega
    refine Own.put ho h0 (by simp [marks_length]; omega) ?_
    intro w2 ho2 hg2 hs2
    refine ⟨k + (i + 1), i + 1, by rw [w64_succ h0 (by omega), w64_id (by omega) (by omega), hm]; congr 1; omega, ⟨by omega, by omega, rfl, ?_, ⟨hg2.os.trans hg.os, hg2.tape.trans hg.tape, hg2.output.trans hg.output, by omega, fun x hx hne => (hg2.block x (by omega) hne).trans (hg.block x hx hne)⟩, by omega⟩, by omega⟩
    rw [show (i + 1).toNat = i.toNat + 1 by omega, ← marks_step L k hlt]
    rw [show k + (i.toNat : Int) = m by omega]
    simpa [OwnI, List.map_set] using ho2
  · rw [laws_markIntS.A2_0_s]
    have e : i.toNat = L.length := by omega
    rw [e] at ho
    exact ⟨by rw [hm]; congr 2; omega, by simpa using ho, hg, hsz⟩

theorem c_heldIntS {w : World} {a : Sl} {n : Nat} {k : Int} (ha : RowI w a (marks k n)) (hL : n < 2^38) (hk0 : 0 ≤ k) (hk : k < 2^40) :
    Quiet F.laws_heldIntS #[a.v, vI k] w (vI (k + n)) := by
  intro w1 hd
  have han : a.n = n := by have := ha.n; simpa [marks_length] using this
  refine laws_heldIntS.calls a k ?_
  rw [laws_heldIntS.E_s]
  refine laws_heldIntS.L2_rule _ _ _ _ _ (I := fun m i w' => w' = w1 ∧ 0 ≤ i ∧ i ≤ n ∧ m = k + i) (μ := fun _ i _ => (n - i).toNat) ⟨rfl, by omega, by omega, by omega⟩ ?_
  rintro m i w' ⟨rfl, h0, hi, hm⟩
  rw [laws_heldIntS.B2_s]
  refine bif_dec (fun h3 => ?_) (fun h3 => ?_)
  · refine RowI.get (ha.heap hd.heap') h0 (by rw [marks_length]; omega) ?_
    rw [marks_getD (by omega)]
    refine bif_f (by simp; omega) ?_
    exact ⟨k + (i + 1), i + 1, by rw [w64_succ h0 (by omega), w64_id (by omega) (by omega), hm]; congr 1; omega, ⟨rfl, by omega, by omega, rfl⟩, by omega⟩
  · rw [laws_heldIntS.A2_0_s]
    exact ⟨by rw [hm]; congr 2; omega, Drew.refl _⟩
end Go.Proofs.Ytmhgjfahgemblaa
