/- The lengths of longest ascending patterns, as the program reckons them. -/
import Derived.Test.YtliabbhfagfagaaPerm
namespace Go.Proofs.Ytliabbhfagfagaa
open Go Go.RowKit
set_option maxRecDepth 100000

def tab (n : Nat) (f : Nat → Int) : List Int := (List.range n).map f
theorem tab_length (n : Nat) (f : Nat → Int) : (tab n f).length = n := by simp [tab]
theorem tab_getD {n : Nat} (f : Nat → Int) {i : Nat} (h : i < n) : (tab n f).getD i 0 = f i := by simp [tab, List.getD_eq_getElem?_getD, h]
theorem tab_set {n : Nat} (f : Nat → Int) (i : Nat) (v : Int) : (tab n f).set i v = tab n (fun j => if j = i then v else f j) := by
  apply List.ext_getElem?
  intro k
  simp only [tab, List.getElem?_set, List.getElem?_map, List.length_map, List.length_range]
  by_cases hk : k < n
  · rw [List.getElem?_range hk]
    by_cases hik : i = k
    · subst hik; simp [hk]
    · simp [hik, Ne.symm hik]
  · rw [List.getElem?_eq_none (by simpa using hk)]
    by_cases hik : i = k
    · subst hik; simp [hk]
    · simp [hik]
theorem tab_congr {n : Nat} {f g : Nat → Int} (h : ∀ j, j < n → f j = g j) : tab n f = tab n g := by
  unfold tab; apply List.map_congr_left; intro j hj; exact h j (by simpa using hj)

def inn (L : List Int) (val : Nat → Int × Int) (i : Nat) : Nat → Int × Int
  | 0 => (1, 1)
  | c + 1 =>
    if L.getD (i + 1 + c) 0 < L.getD i 0 ∨ w64 ((val (i + 1 + c)).1 + 1) < (inn L val i c).1 then inn L val i c
    else if (inn L val i c).1 < w64 ((val (i + 1 + c)).1 + 1) then (w64 ((val (i + 1 + c)).1 + 1), (val (i + 1 + c)).2)
    else ((inn L val i c).1, w64 ((inn L val i c).2 + (val (i + 1 + c)).2))
/-- What stands behind the last d places. -/
def gl (L : List Int) : Nat → Nat → Int × Int
  | 0, _ => (0, 0)
  | d + 1, j => if j = L.length - 1 - d then inn L (gl L d) j d else gl L d j

theorem c_lengths {w : World} {a : Sl} {L : List Int} (ha : RowI w a L) (hL : L.length < 2^38) :
    Calls PP F.impl_lengths #[a.v] w fun e w' => ∃ s t : Sl, e = .returned (.tuple #[s.v, t.v]) ∧ OwnI w' w.heap.size s (tab L.length fun j => (gl L L.length j).1) ∧ OwnI w' w.heap.size t (tab L.length fun j => (gl L L.length j).2) ∧ Below w.heap.size w w' := by
  have han : a.n = L.length := by have := ha.n; simpa using this
  refine impl_lengths.calls a ?_
  rw [impl_lengths.E_s]
  have rep : ∀ f : Nat → Int, (∀ j, f j = 0) → List.replicate L.length (vI 0) = (tab L.length f).map vI := fun f hf => by
    apply List.ext_getElem?
    intro k
    simp only [List.getElem?_replicate, tab, List.getElem?_map]
    by_cases hk : k < L.length
    · rw [List.getElem?_range hk, if_pos hk]; simp [hf]
    · rw [List.getElem?_eq_none (by simpa using hk), if_neg hk]; rfl
  have main : ∀ (s t : Sl) (w1 : World), OwnI w1 w.heap.size s (tab L.length fun j => (gl L 0 j).1) → OwnI w1 w.heap.size t (tab L.length fun j => (gl L 0 j).2) → Below w.heap.size w w1 → (∀ g, s.blk = some g → t.blk ≠ some g) →
      impl_lengths.J2 std a s t w1 (fun e w' => ∃ s t : Sl, e = .returned (.tuple #[s.v, t.v]) ∧ OwnI w' w.heap.size s (tab L.length fun j => (gl L L.length j).1) ∧ OwnI w' w.heap.size t (tab L.length fun j => (gl L L.length j).2) ∧ Below w.heap.size w w') := by
    intro s t w1 hs ht hb hne
    have hne2 : ∀ g, t.blk = some g → s.blk ≠ some g := fun g h h2 => hne g h2 h
    rw [impl_lengths.J2_s]
    refine impl_lengths.L3_rule _ _ _ _ _ _ (I := fun i w2 => -1 ≤ i ∧ i < L.length ∧ OwnI w2 w.heap.size s (tab L.length fun j => (gl L (L.length - 1 - i).toNat j).1) ∧ OwnI w2 w.heap.size t (tab L.length fun j => (gl L (L.length - 1 - i).toNat j).2) ∧ Below w.heap.size w w2) (μ := fun i _ => (i + 1).toNat) ?_ ?_
    · rw [han, w64_id (by omega) (by omega)]
      rw [show ((L.length : Int) - 1 - ((L.length : Int) - 1)).toNat = 0 by omega]
      exact ⟨by omega, by omega, hs, ht, hb⟩
    rintro i w2 ⟨hi0, hi, hs, ht, hb⟩
    rw [impl_lengths.B3_s]
    refine bif_dec (fun h3 => ?_) (fun h3 => ?_)
    · obtain ⟨i, rfl⟩ : ∃ m : Nat, i = m := ⟨i.toNat, by omega⟩
      obtain ⟨d, hd⟩ : ∃ d : Nat, d = L.length - 1 - i := ⟨_, rfl⟩
      have ed : ((L.length : Int) - 1 - (i : Int)).toNat = d := by omega
      rw [ed] at hs ht
      refine Own.put hs h3 (by simp [tab_length]; omega) ?_
      intro w3 hs3 hg3 _
      have ht3 := ht.kept hg3 (fun g hg h => hne g h hg)
      have hb3 := hb.grown hg3 hb.size (fun g hg => (hs.lt g hg).1)
      refine Own.put ht3 h3 (by simp [tab_length]; omega) ?_
      intro w4 ht4 hg4 _
      have hs4 := hs3.kept hg4 (fun g hg h => hne2 g h hg)
      have hb4 := hb3.grown hg4 hb3.size (fun g hg => (ht3.lt g hg).1)
      rw [w64_succ (by omega) (by omega)]
      have cv : ∀ (f : Nat → Int) (v : Int), ((tab L.length f).map vI).set (i : Int).toNat (vI v) = (tab L.length (fun j => if j = i then v else f j)).map vI := fun f v => by
        rw [← tab_set, List.map_set]; rfl
      rw [cv] at hs4 ht4
      refine impl_lengths.L7_rule _ _ _ _ _ _ _ (I := fun k w5 => (i : Int) + 1 ≤ k ∧ k ≤ L.length ∧ OwnI w5 w.heap.size s (tab L.length fun j => if j = i then (inn L (gl L d) i (k - i - 1).toNat).1 else (gl L d j).1) ∧
          OwnI w5 w.heap.size t (tab L.length fun j => if j = i then (inn L (gl L d) i (k - i - 1).toNat).2 else (gl L d j).2) ∧ Below w.heap.size w w5) (μ := fun k _ => (L.length - k).toNat) ?_ ?_
      · rw [show ((i : Int) + 1 - i - 1).toNat = 0 by omega]
        exact ⟨by omega, by omega, hs4, ht4, hb4⟩
      rintro k w5 ⟨hk0, hk, hs5, ht5, hb5⟩
      obtain ⟨c, hc⟩ : ∃ c : Nat, c = (k - i - 1).toNat := ⟨_, rfl⟩
      have hkc : k = (i : Int) + 1 + c := by omega
      have hkn : k.toNat = i + 1 + c := by omega
      rw [← hc] at hs5 ht5
      have hc1 : ((k + 1) - i - 1).toNat = c + 1 := by omega
      rw [impl_lengths.B7_s]
      have next : ∀ w6 v1 v2, OwnI w6 w.heap.size s (tab L.length fun j => if j = i then v1 else (gl L d j).1) → OwnI w6 w.heap.size t (tab L.length fun j => if j = i then v2 else (gl L d j).2) → Below w.heap.size w w6 → k < L.length →
          inn L (gl L d) i (c + 1) = (v1, v2) → ∃ k_7_n, impl_lengths.emb7 a s t i (w64 (k + 1)) = impl_lengths.emb7 a s t i k_7_n ∧
          ((i : Int) + 1 ≤ k_7_n ∧ k_7_n ≤ L.length ∧ OwnI w6 w.heap.size s (tab L.length fun j => if j = i then (inn L (gl L d) i (k_7_n - i - 1).toNat).1 else (gl L d j).1) ∧
          OwnI w6 w.heap.size t (tab L.length fun j => if j = i then (inn L (gl L d) i (k_7_n - i - 1).toNat).2 else (gl L d j).2) ∧ Below w.heap.size w w6) ∧ (L.length - k_7_n).toNat < (L.length - k).toNat := by
        intro w6 v1 v2 h1 h2 h3 h4 h5
        refine ⟨k + 1, by rw [w64_succ (by omega) (by omega)], ⟨by omega, by omega, ?_, ?_, h3⟩, by omega⟩
        · rw [hc1, h5]; exact h1
        · rw [hc1, h5]; exact h2
      refine bif_dec (fun h6 => ?_) (fun h6 => ?_)
      · have hkl : k < L.length := by omega
        have hk0' : 0 ≤ k := by omega
        have rdS : ∀ w6, OwnI w6 w.heap.size s (tab L.length fun j => if j = i then (inn L (gl L d) i c).1 else (gl L d j).1) → ∀ (K : Int → Prop), K (gl L d (i + 1 + c)).1 → idxK 1 s k fun a => load1 (.int .i64) a w6 K := fun w6 h K hK => by
          refine RowI.get h.row hk0' (by rw [tab_length]; omega) ?_
          rw [tab_getD _ (by omega), hkn, if_neg (by omega)]; exact hK
        have rdT : ∀ w6, OwnI w6 w.heap.size t (tab L.length fun j => if j = i then (inn L (gl L d) i c).2 else (gl L d j).2) → ∀ (K : Int → Prop), K (gl L d (i + 1 + c)).2 → idxK 1 t k fun a => load1 (.int .i64) a w6 K := fun w6 h K hK => by
          refine RowI.get h.row hk0' (by rw [tab_length]; omega) ?_
          rw [tab_getD _ (by omega), hkn, if_neg (by omega)]; exact hK
        have rdSi : ∀ w6, OwnI w6 w.heap.size s (tab L.length fun j => if j = i then (inn L (gl L d) i c).1 else (gl L d j).1) → ∀ (K : Int → Prop), K (inn L (gl L d) i c).1 → idxK 1 s i fun a => load1 (.int .i64) a w6 K := fun w6 h K hK => by
          refine RowI.get h.row (by omega) (by rw [tab_length]; omega) ?_
          rw [tab_getD _ (by omega), if_pos (by omega)]; exact hK
        have rdTi : ∀ w6, OwnI w6 w.heap.size t (tab L.length fun j => if j = i then (inn L (gl L d) i c).2 else (gl L d j).2) → ∀ (K : Int → Prop), K (inn L (gl L d) i c).2 → idxK 1 t i fun a => load1 (.int .i64) a w6 K := fun w6 h K hK => by
          refine RowI.get h.row (by omega) (by rw [tab_length]; omega) ?_
          rw [tab_getD _ (by omega), if_pos (by omega)]; exact hK
        refine RowI.get (ha.grow hb5) hk0' (by omega) ?_
        refine RowI.get (ha.grow hb5) (i := (i : Int)) (by omega) (by omega) ?_
        rw [hkn, show ((i : Int)).toNat = i by omega]
        refine bif_dec (fun h7 => ?_) (fun h7 => ?_)
        · refine drew_intro fun w6 hd6 => next w6 _ _ (hs5.heap hd6.heap') (ht5.heap hd6.heap') (hb5.trans (hd6.below _)) hkl ?_
          rw [inn, if_pos (.inl h7)]
        have hge : ¬ L.getD (i + 1 + c) 0 < L.getD i 0 := h7
        refine rdS w5 hs5 _ ?_
        refine rdSi w5 hs5 _ ?_
        refine drew_intro fun w6 hd6 => ?_
        have hs6 := hs5.heap hd6.heap'
        have ht6 := ht5.heap hd6.heap'
        have hb6 := hb5.trans (hd6.below w.heap.size)
        refine bif_dec (fun h8 => ?_) (fun h8 => ?_)
        · refine next w6 _ _ hs6 ht6 hb6 hkl ?_
          rw [inn, if_pos (.inr h8)]
        refine rdS w6 hs6 _ ?_
        refine rdSi w6 hs6 _ ?_
        refine drew_intro fun w7 hd7 => ?_
        have hno : ¬ (L.getD (i + 1 + c) 0 < L.getD i 0 ∨ w64 ((gl L d (i + 1 + c)).1 + 1) < (inn L (gl L d) i c).1) := by rintro (h | h) <;> contradiction
        refine bif_dec (fun h9 => ?_) (fun h9 => ?_)
        · refine drew_intro fun w8 hd8 => ?_
          have hd68 := hd7.trans hd8
          have hs8 := hs6.heap hd68.heap'
          have ht8 := ht6.heap hd68.heap'
          have hb8 := hb6.trans (hd68.below w.heap.size)
          have e1 : (tab L.length fun j => if j = i then (inn L (gl L d) i c).1 else (gl L d j).1).getD k.toNat 0 = (gl L d (i + 1 + c)).1 := by rw [tab_getD _ (by omega), hkn, if_neg (by omega)]
          have e2 : (tab L.length fun j => if j = i then (inn L (gl L d) i c).2 else (gl L d j).2).getD k.toNat 0 = (gl L d (i + 1 + c)).2 := by rw [tab_getD _ (by omega), hkn, if_neg (by omega)]
          refine RowI.place hs8.row hk0' (by rw [tab_length]; omega) fun a1 ha1 => ?_
          refine RowI.place ht8.row hk0' (by rw [tab_length]; omega) fun a2 ha2 => ?_
          rw [e1] at ha1
          rw [e2] at ha2
          have fin : idxK 1 s (i : Int) fun a35 => storeC a35 (vI (w64 ((gl L d (i + 1 + c)).1 + 1))) w8 fun w9 => idxK 1 t (i : Int) fun a37 => storeC a37 (vI (gl L d (i + 1 + c)).2) w9 fun w10 =>
              ∃ k_7_n, impl_lengths.emb7 a s t i (w64 (k + 1)) = impl_lengths.emb7 a s t i k_7_n ∧
          ((i : Int) + 1 ≤ k_7_n ∧ k_7_n ≤ L.length ∧ OwnI w10 w.heap.size s (tab L.length fun j => if j = i then (inn L (gl L d) i (k_7_n - i - 1).toNat).1 else (gl L d j).1) ∧
          OwnI w10 w.heap.size t (tab L.length fun j => if j = i then (inn L (gl L d) i (k_7_n - i - 1).toNat).2 else (gl L d j).2) ∧ Below w.heap.size w w10) ∧ (L.length - k_7_n).toNat < (L.length - k).toNat := by
            refine Own.put hs8 h3 (by simp [tab_length]; omega) ?_
            intro w9 hs9 hg9 _
            have ht9 := ht8.kept hg9 (fun g hg h => hne g h hg)
            have hb9 := hb8.grown hg9 hb8.size (fun g hg => (hs8.lt g hg).1)
            refine Own.put ht9 h3 (by simp [tab_length]; omega) ?_
            intro w10 ht10 hg10 _
            have hs10 := hs9.kept hg10 (fun g hg h => hne2 g h hg)
            have hb10 := hb9.grown hg10 hb9.size (fun g hg => (ht9.lt g hg).1)
            rw [cv] at hs10 ht10
            have ee : ∀ (f : Nat → Int) (u v : Int), (fun j => if j = i then v else if j = i then u else f j) = fun j => if j = i then v else f j := fun f u v => by funext j; split <;> rfl
            rw [ee] at hs10 ht10
            refine next w10 _ _ hs10 ht10 hb10 hkl ?_
            rw [inn, if_neg hno, if_pos h9]
          exact ⟨load_int ha1 (load_int ha2 fin), load_int ha2 (load_int ha1 fin)⟩
        · refine drew_intro fun w8 hd8 => ?_
          have hd68 := hd7.trans hd8
          have hs8 := hs6.heap hd68.heap'
          have ht8 := ht6.heap hd68.heap'
          have hb8 := hb6.trans (hd68.below w.heap.size)
          have e1 : (tab L.length fun j => if j = i then (inn L (gl L d) i c).2 else (gl L d j).2).getD (i : Int).toNat 0 = (inn L (gl L d) i c).2 := by rw [tab_getD _ (by omega), if_pos (by omega)]
          have e2 : (tab L.length fun j => if j = i then (inn L (gl L d) i c).2 else (gl L d j).2).getD k.toNat 0 = (gl L d (i + 1 + c)).2 := by rw [tab_getD _ (by omega), hkn, if_neg (by omega)]
          refine RowI.place ht8.row h3 (by rw [tab_length]; omega) fun a1 ha1 => ?_
          refine RowI.place ht8.row hk0' (by rw [tab_length]; omega) fun a2 ha2 => ?_
          rw [e1] at ha1
          rw [e2] at ha2
          have fin : idxK 1 t (i : Int) fun a35 => storeC a35 (vI (w64 ((inn L (gl L d) i c).2 + (gl L d (i + 1 + c)).2))) w8 fun w10 =>
              ∃ k_7_n, impl_lengths.emb7 a s t i (w64 (k + 1)) = impl_lengths.emb7 a s t i k_7_n ∧
          ((i : Int) + 1 ≤ k_7_n ∧ k_7_n ≤ L.length ∧ OwnI w10 w.heap.size s (tab L.length fun j => if j = i then (inn L (gl L d) i (k_7_n - i - 1).toNat).1 else (gl L d j).1) ∧
          OwnI w10 w.heap.size t (tab L.length fun j => if j = i then (inn L (gl L d) i (k_7_n - i - 1).toNat).2 else (gl L d j).2) ∧ Below w.heap.size w w10) ∧ (L.length - k_7_n).toNat < (L.length - k).toNat := by
            refine Own.put ht8 h3 (by simp [tab_length]; omega) ?_
            intro w10 ht10 hg10 _
            have hs10 := hs8.kept hg10 (fun g hg h => hne2 g h hg)
            have hb10 := hb8.grown hg10 hb8.size (fun g hg => (ht8.lt g hg).1)
            rw [cv] at ht10
            have ee : ∀ (f : Nat → Int) (u v : Int), (fun j => if j = i then v else if j = i then u else f j) = fun j => if j = i then v else f j := fun f u v => by funext j; split <;> rfl
            rw [ee] at ht10
            refine next w10 _ _ hs10 ht10 hb10 hkl ?_
            rw [inn, if_neg hno, if_neg h9]
          exact ⟨load_int ha1 (load_int ha2 fin), load_int ha2 (load_int ha1 fin)⟩
      · rw [impl_lengths.A7_2_s]
        have ec : c = d := by omega
        subst ec
        refine ⟨(i : Int) - 1, by rw [w64_id (by omega) (by omega)], ⟨by omega, by omega, ?_, ?_, hb5⟩, by omega⟩
        · rw [show ((L.length : Int) - 1 - ((i : Int) - 1)).toNat = c + 1 by omega]
          rw [tab_congr (g := fun j => if j = i then (inn L (gl L c) i c).1 else (gl L c j).1) (fun j hj => by simp only [gl]; rw [show L.length - 1 - c = i by omega]; by_cases hji : j = i <;> simp only [hji, if_true, if_false])]
          exact hs5
        · rw [show ((L.length : Int) - 1 - ((i : Int) - 1)).toNat = c + 1 by omega]
          rw [tab_congr (g := fun j => if j = i then (inn L (gl L c) i c).2 else (gl L c j).2) (fun j hj => by simp only [gl]; rw [show L.length - 1 - c = i by omega]; by_cases hji : j = i <;> simp only [hji, if_true, if_false])]
          exact ht5
    · rw [impl_lengths.A3_0_s]
      rw [show ((L.length : Int) - 1 - i).toNat = L.length by omega] at hs ht
      exact ⟨s, t, rfl, hs, ht, hb⟩
  refine drew_intro fun w1 hd => ?_
  have two : ∀ (P : Sl → Sl → World → Prop), (∀ s t w3, OwnI w3 w.heap.size s (tab L.length fun j => (gl L 0 j).1) → OwnI w3 w.heap.size t (tab L.length fun j => (gl L 0 j).1) → Below w.heap.size w w3 → (∀ g, s.blk = some g → t.blk ≠ some g) → P s t w3) →
      sem1 .sl PP (Instr.makeSlice T_Sint (vI (a.n : Int)) (vI (a.n : Int))) w1 fun r w2 => sem1 .sl PP (Instr.makeSlice T_Sint (vI (a.n : Int)) (vI (a.n : Int))) w2 fun r2 w3 => P r r2 w3 := by
    intro P hP
    have hsz : w1.heap.size = w.heap.size := by rw [hd.heap']
    refine make_own oneInt (B := w.heap.size) (by omega) (by omega) (by omega) ?_
    intro s w2 hs hg2 hn2
    have hb2 : Below w.heap.size w w2 := (hd.below _).trans ((below_of_grow hg2).mono (by omega))
    refine make_own oneInt (B := w.heap.size) hb2.size (by omega) (by omega) ?_
    intro t w3 ht hg3 hn3
    have hs3 := hs.kept hg3 (fun g _ => by simp)
    rw [han] at hs3 ht
    rw [show ((L.length : Nat) : Int).toNat = L.length by omega, rep (fun j => (gl L 0 j).1) (fun j => rfl)] at hs3 ht
    refine hP s t w3 hs3 ht (hb2.trans ((below_of_grow hg3).mono hb2.size)) fun g hg hg' => ?_
    have h1 := (hs.lt g hg).2
    rcases hn3 g hg' with h2 | h2
    · simp [Sl.blk, Sl.nil] at h2
    · omega
  exact ⟨two _ fun s t w3 h1 h2 h3 h4 => main s t w3 h1 h2 h3 h4, two _ fun s t w3 h1 h2 h3 h4 => main t s w3 h2 h1 h3 (fun g hg hg' => h4 g hg' hg)⟩
end Go.Proofs.Ytliabbhfagfagaa
