/- Which blocks a slice of rows stands on, and what a step does to them. -/
import Derived.Test.YtmhgjfahgemblaaSs
namespace Go.Proofs.Ytmhgjfahgemblaa
open Go Go.RowKit
set_option maxRecDepth 100000

/-- The blocks of a slice of rows. -/
def foot (s : Sl) (rs : List Sl) (g : Nat) : Prop := s.blk = some g ∨ ∃ r ∈ rs, r.blk = some g
theorem OwnRows.footLt {w B s rs LL} (h : OwnRows w B s rs LL) {g : Nat} (hg : foot s rs g) : B ≤ g ∧ g < w.heap.size := by
  rcases hg with hg | ⟨r, hr, hg⟩
  · exact h.out.lt g hg
  · exact h.lt hr hg
theorem OwnRows.keepsF {S : Nat → Prop} {w w' B s rs LL} (h : OwnRows w B s rs LL) (hk : Keeps S w w') (hd : ∀ g, foot s rs g → ¬ S g) : OwnRows w' B s rs LL :=
  h.keeps hk (fun g hg => hd g (.inl hg)) (fun r hr g hg => hd g (.inr ⟨r, hr, hg⟩))
/-- A step that writes S alone, and what S becomes: nothing but S and what is new. -/
structure Stp (w w' : World) (S S' : Nat → Prop) : Prop where
  keeps : Keeps S w w'
  next : ∀ g, S' g → S g ∨ w.heap.size ≤ g
theorem Stp.refl (w : World) (S : Nat → Prop) : Stp w w S S := ⟨Keeps.refl _ _, fun _ h => .inl h⟩
theorem Stp.trans {a b c : World} {S T U : Nat → Prop} (h : Stp a b S T) (k : Stp b c T U) : Stp a c S U := by
  refine ⟨⟨k.keeps.os.trans h.keeps.os, k.keeps.tape.trans h.keeps.tape, k.keeps.output.trans h.keeps.output, Nat.le_trans h.keeps.size k.keeps.size, fun x hx hn => ?_⟩, fun g hg => ?_⟩
  · rw [k.keeps.block x (Nat.lt_of_lt_of_le hx h.keeps.size) fun ht => ?_]
    · exact h.keeps.block x hx hn
    · rcases h.next x ht with h1 | h1
      · exact hn h1
      · omega
  · rcases k.next g hg with h1 | h1
    · exact h.next g h1
    · have := h.keeps.size; exact .inr (by omega)
/-- What stands on other blocks stays apart. -/
theorem Stp.apart {w w' : World} {S S' F : Nat → Prop} (h : Stp w w' S S') (hF : ∀ g, F g → g < w.heap.size) (hd : ∀ g, S g → ¬ F g) : ∀ g, S' g → ¬ F g := fun g h1 h2 => by
  rcases h.next g h1 with h3 | h3
  · exact hd g h3 h2
  · have := hF g h2; omega
theorem Stp.grow {w w' : World} {S : Nat → Prop} (h : Below w.heap.size w w') : Stp w w' S S := ⟨(keeps_grown (grow_of_below h)).mono (fun k e => by cases e), fun _ h => .inl h⟩
theorem Stp.below {w w' : World} {S S' : Nat → Prop} {B : Nat} (h : Stp w w' S S') (hS : ∀ g, S g → B ≤ g) (hB : B ≤ w.heap.size) : Below B w w' := h.keeps.below hS hB

theorem getElem?_getD {LL : List (List Int)} {i : Nat} (hi : i < LL.length) : LL[i]? = some (LL.getD i []) := by simp [List.getD_eq_getElem?_getD, List.getElem?_eq_getElem hi]
/-- 'rows[i] = append(rows[i], x)'. -/
theorem OwnRows.appendAtF {w B s rs LL} (h : OwnRows w B s rs LL) {i : Int} (h0 : 0 ≤ i) (hi : i < LL.length) (hB : B ≤ w.heap.size) (hlen : (LL.getD i.toNat []).length < 2^39) {x : Int} {K : World → Prop}
    (hk : ∀ w' rs', OwnRows w' B s rs' (LL.set i.toNat (LL.getD i.toNat [] ++ [x])) → Stp w w' (foot s rs) (foot s rs') → K w') :
    idxK 1 s i fun a => load1 .sl a w fun (t : Sl) => sem1 .sl PP (Instr.buildSlice T_Sint 1 #[(0, vI x)]) w fun (ρ : Sl) w1 => sem1 .sl PP (Builtin.append_ #[T_Sint, T_Sint] T_Sint #[t.v, ρ.v]) w1 fun (t' : Sl) w2 =>
      idxK 1 s i fun a2 => storeC a2 t'.v w2 K := by
  obtain ⟨t, h1, h2⟩ := h.get (i := i.toNat) (by omega)
  refine Row.get (sh := .sl) (r := t) h.out.row h0 (by rw [List.getElem?_map, h1]; rfl) ?_
  refine append_int h2 hB hlen ?_
  intro t' w5 ht' hg5 hn5
  have hs5 : Own w5 B T_Sint s (rs.map Sl.v) := h.out.kept hg5 fun g hg' e => (h.out.apt h2 (by decide)) g hg' e
  refine Own.put hs5 h0 (by rw [List.length_map, h.len]; exact hi) (v := t'.v) ?_
  intro w6 ho6 hg6 _
  have hm : t ∈ rs := List.mem_of_getElem? h1
  refine hk w6 _ (h.setNew h1 hg5 ht' hn5 ho6 hg6 rfl) ⟨?_, fun g hg => ?_⟩
  · exact ((keeps_grown hg5).mono (fun k e => .inr ⟨t, hm, e⟩)).trans ((keeps_grown hg6).mono (fun k e => .inl e))
  · rcases hg with hg | ⟨r, hr, hg⟩
    · exact .inl (.inl hg)
    · rcases List.mem_or_eq_of_mem_set hr with hr | rfl
      · exact .inl (.inr ⟨r, hr, hg⟩)
      · rcases hn5 g hg with h3 | h3
        · exact .inl (.inr ⟨t, hm, h3⟩)
        · exact .inr h3
/-- 'rows[i][c] = x'. -/
theorem OwnRows.setAtF {w B s rs LL} (h : OwnRows w B s rs LL) {i c : Int} (h0 : 0 ≤ i) (hi : i < LL.length) (hc0 : 0 ≤ c) (hc : c < (LL.getD i.toNat []).length) {x : Int} {K : World → Prop}
    (hk : ∀ w', OwnRows w' B s rs (LL.set i.toNat ((LL.getD i.toNat []).set c.toNat x)) → Stp w w' (foot s rs) (foot s rs) → w'.heap.size = w.heap.size → K w') :
    idxK 1 s i fun a => load1 .sl a w fun (t : Sl) => idxK 1 t c fun a2 => storeC a2 (vI x) w K := by
  obtain ⟨t, h1, h2⟩ := h.get (i := i.toNat) (by omega)
  refine Row.get (sh := .sl) (r := t) h.out.row h0 (by rw [List.getElem?_map, h1]; rfl) ?_
  refine Own.put h2 hc0 (by rw [List.length_map]; exact hc) ?_
  intro w6 ho6 hg6 hs6
  refine hk w6 (h.inside h1 (by simpa [OwnI, List.map_set] using ho6) hg6) ⟨?_, fun g hg => .inl hg⟩ hs6
  exact (keeps_grown hg6).mono (fun k e => .inr ⟨t, List.mem_of_getElem? h1, e⟩)
theorem foot_push {w w' : World} {s s' : Sl} {rs : List Sl} {r : Sl} {C : Nat} (hg : w.grownBy w' s.blk) (hn : Next w s s') (hC : C ≤ w.heap.size) (hr : ∀ g, r.blk = some g → C ≤ g) : Keeps (foot s rs) w w' ∧ ∀ g, foot s' (rs ++ [r]) g → foot s rs g ∨ C ≤ g := by
  refine ⟨(keeps_grown hg).mono (fun k e => .inl e), fun g hg => ?_⟩
  rcases hg with hg | ⟨t, ht, hg⟩
  · rcases hn g hg with h1 | h1
    · exact .inl (.inl h1)
    · exact .inr (by omega)
  · rcases List.mem_append.1 ht with ht | ht
    · exact .inl (.inr ⟨t, ht, hg⟩)
    · simp at ht; subst ht; exact .inr (hr g hg)
/-- 'append(rows, row)', the row made by this step. -/
theorem OwnRows.pushF {w0 w : World} {B : Nat} {s : Sl} {rs : List Sl} {LL : List (List Int)} {r : Sl} {L : List Int} (h0 : OwnRows w0 B s rs LL) (hb : Below w0.heap.size w0 w) (hB : B ≤ w0.heap.size) (hr : OwnI w B r L) (hrn : ∀ g, r.blk = some g → w0.heap.size ≤ g) (hn : LL.length < 2^39) {K : Sl → World → Prop}
    (hk : ∀ s' w', OwnRows w' B s' (rs ++ [r]) (LL ++ [L]) → Stp w0 w' (foot s rs) (foot s' (rs ++ [r])) → K s' w') :
    sem1 .sl PP (Instr.buildSlice T_SSint 1 #[(0, r.v)]) w fun t w1 => sem1 .sl PP (Builtin.append_ #[T_SSint, T_SSint] T_SSint #[s.v, t.v]) w1 K := by
  refine append_sl (h0.grow hb) (Nat.le_trans hB hb.size) hr (fun t ht => Apt.of_lt (fun g hg => (h0.lt ht hg).2) hrn) hn fun s' w' h1 h2 h3 => hk s' w' h1 ?_
  obtain ⟨k1, k2⟩ := foot_push (rs := rs) h2 h3 hb.size hrn
  exact ⟨((Stp.grow (S := foot s rs) hb).keeps).trans k1, k2⟩
end Go.Proofs.Ytmhgjfahgemblaa
