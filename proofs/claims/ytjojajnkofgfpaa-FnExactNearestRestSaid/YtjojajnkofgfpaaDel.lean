/- The library's Delete of one element of a row of ints that the call owns. -/
import Derived.Test.YtjojajnkofgfpaaCodeDe
import Derived.Test.YtjojajnkofgfpaaSs
namespace Go.Proofs.Ytjojajnkofgfpaa
open Go Go.RowKit
set_option maxRecDepth 100000

theorem keepsTrans {a b c : World} {r : Option Nat} (h : a.grownBy b r) (k : b.grownBy c r) : a.grownBy c r :=
  ⟨k.os.trans h.os, k.tape.trans h.tape, k.output.trans h.output, Nat.le_trans h.size k.size, fun x hx hne => (k.block x (Nat.lt_of_lt_of_le hx h.size) hne).trans (h.block x hx hne)⟩
theorem c_Delete {w : World} {B : Nat} {s : Sl} {L : List Int} (h : OwnI w B s L) (hB : B ≤ w.heap.size) (hL : L.length < 2^38) {i : Int} (h0 : 0 ≤ i) (hi : i < L.length) :
    Calls PP F.slices_Delete___int_int_ #[s.v, vI i, vI (i + 1)] w fun e w' => ∃ s' : Sl, e = .returned s'.v ∧ OwnI w' B s' (L.take i.toNat ++ L.drop (i.toNat + 1)) ∧ w.grownBy w' s.blk ∧ Next w s s' := by
  have hsn : s.n = L.length := by have := h.n; simpa using this
  have hnc := h.nc
  refine slices_Delete___int_int_.calls s i (i + 1) ?_
  rw [slices_Delete___int_int_.E_s]
  refine ⟨by simpa using h0, by simp; omega, by omega, by omega, ?_⟩
  refine bif_f (by simp; omega) ?_
  refine drew_intro fun w1 hd => ?_
  have h1 : OwnI w1 B s L := h.heap hd.heap'
  refine Own.popE h1 h0 (by simp; omega) fun hs2 => ?_
  refine Row.cut h1.row (lo := some (i + 1)) (hi := none) (by simp; omega) (by simp; omega) (by simp; omega) ?_
  intro s3 hs3
  have e3 : (List.take ((none : Option Int).getD (s.n : Int)).toNat (L.map vI)).drop ((some (i + 1)).getD 0).toNat = (L.drop (i.toNat + 1)).map vI := by
    simp only [Option.getD_none, Option.getD_some, Int.toNat_natCast]
    rw [List.take_of_length_le (by simp; omega), List.map_drop, show (i + 1).toNat = i.toNat + 1 by omega]
  rw [e3] at hs3
  have e2 : (L.map vI).take i.toNat = (L.take i.toNat).map vI := by rw [List.map_take]
  rw [e2] at hs2
  have hsz : w1.heap.size = w.heap.size := by rw [hd.heap']
  have hlen : (List.map vI (List.take i.toNat L) ++ List.map vI (List.drop (i.toNat + 1) L)).length + 1 = L.length := by simp; omega
  refine append_room oneInt hs2 (by omega) hs3 (fun v hv => by obtain ⟨x, _, rfl⟩ := List.mem_map.1 hv; exact One.int x) (by simp; omega) (by simp only [List.length_map, List.length_take, List.length_drop]; omega) ?_
  intro s4 w4 hs4 hg4 hn4 hc4
  simp only at hc4
  refine clear_spare hs4 (by omega) (by omega) ?_
  intro r w5 hs5 hg5 _
  have hblk2 : ∀ g, (⟨s.a, i.toNat, s.c⟩ : Sl).blk = some g ↔ s.blk = some g := fun g => by simp [Sl.blk]
  have eblk : (⟨s.a, i.toNat, s.c⟩ : Sl).blk = s.blk := by simp [Sl.blk]
  rw [eblk] at hg4
  have hw4 : w.grownBy w4 s.blk := ⟨hg4.os.trans (hd.below 0).os, hg4.tape.trans (hd.below 0).tape, hg4.output.trans (hd.below 0).output, by have := hg4.size; omega, fun x hx hne => by rw [hg4.block x (by omega) hne, hd.heap']⟩
  refine ⟨s4, rfl, by simpa [OwnI] using hs5, ⟨hg5.os.trans hw4.os, hg5.tape.trans hw4.tape, hg5.output.trans hw4.output, Nat.le_trans hw4.size hg5.size, fun x hx hne => ?_⟩, fun g hg => ?_⟩
  · rw [hg5.block x (Nat.lt_of_lt_of_le hx hw4.size) (fun e => ?_), hw4.block x hx hne]
    rcases hn4 x e.symm with h6 | h6
    · rw [eblk] at h6; exact hne h6.symm
    · omega
  · rcases hn4 g hg with h6 | h6
    · rw [eblk] at h6; exact .inl h6
    · exact .inr (by omega)
end Go.Proofs.Ytjojajnkofgfpaa
