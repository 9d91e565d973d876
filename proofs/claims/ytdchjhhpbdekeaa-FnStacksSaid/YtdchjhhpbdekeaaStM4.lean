/- The texts Lens, LisE, Lis, CodeL20, L20, LongUp, CodeRv, Rev, Sl1, R3, Down, Law2, PassMath, Pass, CodeRi, CodeSa, Same, Rise, PassLaws, CodePe, PermsMath, Perms, CodeB, LawSs, Src in one (gmerge.py). -/
import Derived.Test.YtdchjhhpbdekeaaStM3
/- The lengths of longest ascending patterns, as the program reckons them. -/
namespace Go.Proofs.Ytdchjhhpbdekeaa
open Go Go.RowKit
set_option maxRecDepth 100000

def inn (L : List Int) (val : Nat → Int × Int) (i : Nat) : Nat → Int × Int
  | 0 => (1, 1)
  | c + 1 =>
    if L.getD (i + 1 + c) 0 < L.getD i 0 ∨ w64 ((val (i + 1 + c)).1 + 1) < (inn L val i c).1 then inn L val i c
    else if (inn L val i c).1 < w64 ((val (i + 1 + c)).1 + 1) then (w64 ((val (i + 1 + c)).1 + 1), (val (i + 1 + c)).2)
    else ((inn L val i c).1, w64 ((inn L val i c).2 + (val (i + 1 + c)).2))
/-- What stands behind the last d places. -/
def gl (L : List Int) : Nat → Nat → Int × Int
  | 0, _ => (0, 0)
  | d + 1, j => if j = L.length - 1 - d then inn L (gl L d) j d else gl L d j

theorem c_lengths {w : World} {a : Sl} {L : List Int} (ha : RowI w a L) (hL : L.length < 2^38) :
    Calls PP F.impl_lengths #[a.v] w fun e w' => ∃ s t : Sl, e = .returned (.tuple #[s.v, t.v]) ∧ OwnI w' w.heap.size s (tab L.length fun j => (gl L L.length j).1) ∧ OwnI w' w.heap.size t (tab L.length fun j => (gl L L.length j).2) ∧ Below w.heap.size w w' := by
  have han : a.n = L.length := by have := ha.n; simpa using this
  refine impl_lengths.calls a ?_
  rw [impl_lengths.E_s]
  have rep : ∀ f : Nat → Int, (∀ j, f j = 0) → List.replicate L.length (vI 0) = (tab L.length f).map vI := fun f hf => by
    apply List.ext_getElem?
    intro k
    simp only [List.getElem?_replicate, tab, List.getElem?_map]
    by_cases hk : k < L.length
    · rw [List.getElem?_range hk, if_pos hk]; simp [hf]
    · rw [List.getElem?_eq_none (by simpa using hk), if_neg hk]; rfl
  have main : ∀ (s t : Sl) (w1 : World), OwnI w1 w.heap.size s (tab L.length fun j => (gl L 0 j).1) → OwnI w1 w.heap.size t (tab L.length fun j => (gl L 0 j).2) → Below w.heap.size w w1 → (∀ g, s.blk = some g → t.blk ≠ some g) →
      impl_lengths.J2 std a s t w1 (fun e w' => ∃ s t : Sl, e = .returned (.tuple #[s.v, t.v]) ∧ OwnI w' w.heap.size s (tab L.length fun j => (gl L L.length j).1) ∧ OwnI w' w.heap.size t (tab L.length fun j => (gl L L.length j).2) ∧ Below w.heap.size w w') := by
    intro s t w1 hs ht hb hne
    have hne2 : ∀ g, t.blk = some g → s.blk ≠ some g := fun g h h2 => hne g h2 h
    rw [impl_lengths.J2_s]
    refine impl_lengths.L3_rule _ _ _ _ _ _ (I := fun i w2 => -1 ≤ i ∧ i < L.length ∧ OwnI w2 w.heap.size s (tab L.length fun j => (gl L (L.length - 1 - i).toNat j).1) ∧ OwnI w2 w.heap.size t (tab L.length fun j => (gl L (L.length - 1 - i).toNat j).2) ∧ Below w.heap.size w w2) (μ := fun i _ => (i + 1).toNat) ?_ ?_
    · rw [han, w64_id (by omega) (by omega)]
      rw [show ((L.length : Int) - 1 - ((L.length : Int) - 1)).toNat = 0 by omega]
      exact ⟨by omega, by omega, hs, ht, hb⟩
    rintro i w2 ⟨hi0, hi, hs, ht, hb⟩
    rw [impl_lengths.B3_s]
    refine bif_dec (fun h3 => ?_) (fun h3 => ?_)
    · obtain ⟨i, rfl⟩ : ∃ m : Nat, i = m := ⟨i.toNat, by omega⟩
      obtain ⟨d, hd⟩ : ∃ d : Nat, d = L.length - 1 - i := ⟨_, rfl⟩
      have ed : ((L.length : Int) - 1 - (i : Int)).toNat = d := by omega
      rw [ed] at hs ht
      refine Own.put hs h3 (by simp [tab_length]; omega) ?_
      intro w3 hs3 hg3 _
      have ht3 := ht.kept hg3 (fun g hg h => hne g h hg)
      have hb3 := hb.grown hg3 hb.size (fun g hg => (hs.lt g hg).1)
      refine Own.put ht3 h3 (by simp [tab_length]; omega) ?_
      intro w4 ht4 hg4 _
      have hs4 := hs3.kept hg4 (fun g hg h => hne2 g h hg)
      have hb4 := hb3.grown hg4 hb3.size (fun g hg => (ht3.lt g hg).1)
      rw [w64_succ (by omega) (by omega)]
      have cv : ∀ (f : Nat → Int) (v : Int), ((tab L.length f).map vI).set (i : Int).toNat (vI v) = (tab L.length (fun j => if j = i then v else f j)).map vI := fun f v => by
        rw [← tab_set, List.map_set]; rfl
      rw [cv] at hs4 ht4
      refine impl_lengths.L7_rule _ _ _ _ _ _ _ (I := fun k w5 => (i : Int) + 1 ≤ k ∧ k ≤ L.length ∧ OwnI w5 w.heap.size s (tab L.length fun j => if j = i then (inn L (gl L d) i (k - i - 1).toNat).1 else (gl L d j).1) ∧
          OwnI w5 w.heap.size t (tab L.length fun j => if j = i then (inn L (gl L d) i (k - i - 1).toNat).2 else (gl L d j).2) ∧ Below w.heap.size w w5) (μ := fun k _ => (L.length - k).toNat) ?_ ?_
      · rw [show ((i : Int) + 1 - i - 1).toNat = 0 by omega]
        exact ⟨by omega, by omega, hs4, ht4, hb4⟩
      rintro k w5 ⟨hk0, hk, hs5, ht5, hb5⟩
      obtain ⟨c, hc⟩ : ∃ c : Nat, c = (k - i - 1).toNat := ⟨_, rfl⟩
      have hkc : k = (i : Int) + 1 + c := by omega
      have hkn : k.toNat = i + 1 + c := by omega
      rw [← hc] at hs5 ht5
      have hc1 : ((k + 1) - i - 1).toNat = c + 1 := by omega
      rw [impl_lengths.B7_s]
      have next : ∀ w6 v1 v2, OwnI w6 w.heap.size s (tab L.length fun j => if j = i then v1 else (gl L d j).1) → OwnI w6 w.heap.size t (tab L.length fun j => if j = i then v2 else (gl L d j).2) → Below w.heap.size w w6 → k < L.length →
          inn L (gl L d) i (c + 1) = (v1, v2) → ∃ k_7_n, impl_lengths.emb7 a s t i (w64 (k + 1)) = impl_lengths.emb7 a s t i k_7_n ∧
          ((i : Int) + 1 ≤ k_7_n ∧ k_7_n ≤ L.length ∧ OwnI w6 w.heap.size s (tab L.length fun j => if j = i then (inn L (gl L d) i (k_7_n - i - 1).toNat).1 else (gl L d j).1) ∧
          OwnI w6 w.heap.size t (tab L.length fun j => if j = i then (inn L (gl L d) i (k_7_n - i - 1).toNat).2 else (gl L d j).2) ∧ Below w.heap.size w w6) ∧ (L.length - k_7_n).toNat < (L.length - k).toNat := by
        intro w6 v1 v2 h1 h2 h3 h4 h5
        refine ⟨k + 1, by rw [w64_succ (by omega) (by omega)], ⟨by omega, by omega, ?_, ?_, h3⟩, by omega⟩
        · rw [hc1, h5]; exact h1
        · rw [hc1, h5]; exact h2
      refine bif_dec (fun h6 => ?_) (fun h6 => ?_)
      · have hkl : k < L.length := by omega
        have hk0' : 0 ≤ k := by omega
        have rdS : ∀ w6, OwnI w6 w.heap.size s (tab L.length fun j => if j = i then (inn L (gl L d) i c).1 else (gl L d j).1) → ∀ (K : Int → Prop), K (gl L d (i + 1 + c)).1 → idxK 1 s k fun a => load1 (.int .i64) a w6 K := fun w6 h K hK => by
          refine RowI.get h.row hk0' (by rw [tab_length]; omega) ?_
          rw [tab_getD _ (by omega), hkn, if_neg (by omega)]; exact hK
        have rdT : ∀ w6, OwnI w6 w.heap.size t (tab L.length fun j => if j = i then (inn L (gl L d) i c).2 else (gl L d j).2) → ∀ (K : Int → Prop), K (gl L d (i + 1 + c)).2 → idxK 1 t k fun a => load1 (.int .i64) a w6 K := fun w6 h K hK => by
          refine RowI.get h.row hk0' (by rw [tab_length]; omega) ?_
          rw [tab_getD _ (by omega), hkn, if_neg (by omega)]; exact hK
        have rdSi : ∀ w6, OwnI w6 w.heap.size s (tab L.length fun j => if j = i then (inn L (gl L d) i c).1 else (gl L d j).1) → ∀ (K : Int → Prop), K (inn L (gl L d) i c).1 → idxK 1 s i fun a => load1 (.int .i64) a w6 K := fun w6 h K hK => by
          refine RowI.get h.row (by omega) (by rw [tab_length]; omega) ?_
          rw [tab_getD _ (by omega), if_pos (by omega)]; exact hK
        have rdTi : ∀ w6, OwnI w6 w.heap.size t (tab L.length fun j => if j = i then (inn L (gl L d) i c).2 else (gl L d j).2) → ∀ (K : Int → Prop), K (inn L (gl L d) i c).2 → idxK 1 t i fun a => load1 (.int .i64) a w6 K := fun w6 h K hK => by
          refine RowI.get h.row (by omega) (by rw [tab_length]; omega) ?_
          rw [tab_getD _ (by omega), if_pos (by omega)]; exact hK
        refine RowI.get (ha.grow hb5) hk0' (by omega) ?_
        refine RowI.get (ha.grow hb5) (i := (i : Int)) (by omega) (by omega) ?_
        rw [hkn, show ((i : Int)).toNat = i by omega]
        refine bif_dec (fun h7 => ?_) (fun h7 => ?_)
        · refine drew_intro fun w6 hd6 => next w6 _ _ (hs5.heap hd6.heap') (ht5.heap hd6.heap') (hb5.trans (hd6.below _)) hkl ?_
          rw [inn, if_pos (.inl h7)]
        have hge : ¬ L.getD (i + 1 + c) 0 < L.getD i 0 := h7
        refine rdS w5 hs5 _ ?_
        refine rdSi w5 hs5 _ ?_
        refine drew_intro fun w6 hd6 => ?_
        have hs6 := hs5.heap hd6.heap'
        have ht6 := ht5.heap hd6.heap'
        have hb6 := hb5.trans (hd6.below w.heap.size)
        refine bif_dec (fun h8 => ?_) (fun h8 => ?_)
        · refine next w6 _ _ hs6 ht6 hb6 hkl ?_
          rw [inn, if_pos (.inr h8)]
        refine rdS w6 hs6 _ ?_
        refine rdSi w6 hs6 _ ?_
        refine drew_intro fun w7 hd7 => ?_
        have hno : ¬ (L.getD (i + 1 + c) 0 < L.getD i 0 ∨ w64 ((gl L d (i + 1 + c)).1 + 1) < (inn L (gl L d) i c).1) := by rintro (h | h) <;> contradiction
        refine bif_dec (fun h9 => ?_) (fun h9 => ?_)
        · refine drew_intro fun w8 hd8 => ?_
          have hd68 := hd7.trans hd8
          have hs8 := hs6.heap hd68.heap'
          have ht8 := ht6.heap hd68.heap'
          have hb8 := hb6.trans (hd68.below w.heap.size)
          have e1 : (tab L.length fun j => if j = i then (inn L (gl L d) i c).1 else (gl L d j).1).getD k.toNat 0 = (gl L d (i + 1 + c)).1 := by rw [tab_getD _ (by omega), hkn, if_neg (by omega)]
          have e2 : (tab L.length fun j => if j = i then (inn L (gl L d) i c).2 else (gl L d j).2).getD k.toNat 0 = (gl L d (i + 1 + c)).2 := by rw [tab_getD _ (by omega), hkn, if_neg (by omega)]
          refine RowI.place hs8.row hk0' (by rw [tab_length]; omega) fun a1 ha1 => ?_
          refine RowI.place ht8.row hk0' (by rw [tab_length]; omega) fun a2 ha2 => ?_
          rw [e1] at ha1
          rw [e2] at ha2
          have fin : idxK 1 s (i : Int) fun a35 => storeC a35 (vI (w64 ((gl L d (i + 1 + c)).1 + 1))) w8 fun w9 => idxK 1 t (i : Int) fun a37 => storeC a37 (vI (gl L d (i + 1 + c)).2) w9 fun w10 =>
              ∃ k_7_n, impl_lengths.emb7 a s t i (w64 (k + 1)) = impl_lengths.emb7 a s t i k_7_n ∧
          ((i : Int) + 1 ≤ k_7_n ∧ k_7_n ≤ L.length ∧ OwnI w10 w.heap.size s (tab L.length fun j => if j = i then (inn L (gl L d) i (k_7_n - i - 1).toNat).1 else (gl L d j).1) ∧
          OwnI w10 w.heap.size t (tab L.length fun j => if j = i then (inn L (gl L d) i (k_7_n - i - 1).toNat).2 else (gl L d j).2) ∧ Below w.heap.size w w10) ∧ (L.length - k_7_n).toNat < (L.length - k).toNat := by
            refine Own.put hs8 h3 (by simp [tab_length]; omega) ?_
            intro w9 hs9 hg9 _
            have ht9 := ht8.kept hg9 (fun g hg h => hne g h hg)
            have hb9 := hb8.grown hg9 hb8.size (fun g hg => (hs8.lt g hg).1)
            refine Own.put ht9 h3 (by simp [tab_length]; omega) ?_
            intro w10 ht10 hg10 _
            have hs10 := hs9.kept hg10 (fun g hg h => hne2 g h hg)
            have hb10 := hb9.grown hg10 hb9.size (fun g hg => (ht9.lt g hg).1)
            rw [cv] at hs10 ht10
            have ee : ∀ (f : Nat → Int) (u v : Int), (fun j => if j = i then v else if j = i then u else f j) = fun j => if j = i then v else f j := fun f u v => by funext j; split <;> rfl
            rw [ee] at hs10 ht10
            refine next w10 _ _ hs10 ht10 hb10 hkl ?_
            rw [inn, if_neg hno, if_pos h9]
          exact ⟨load_int ha1 (load_int ha2 fin), load_int ha2 (load_int ha1 fin)⟩
        · refine drew_intro fun w8 hd8 => ?_
          have hd68 := hd7.trans hd8
          have hs8 := hs6.heap hd68.heap'
          have ht8 := ht6.heap hd68.heap'
          have hb8 := hb6.trans (hd68.below w.heap.size)
          have e1 : (tab L.length fun j => if j = i then (inn L (gl L d) i c).2 else (gl L d j).2).getD (i : Int).toNat 0 = (inn L (gl L d) i c).2 := by rw [tab_getD _ (by omega), if_pos (by omega)]
          have e2 : (tab L.length fun j => if j = i then (inn L (gl L d) i c).2 else (gl L d j).2).getD k.toNat 0 = (gl L d (i + 1 + c)).2 := by rw [tab_getD _ (by omega), hkn, if_neg (by omega)]
          refine RowI.place ht8.row h3 (by rw [tab_length]; omega) fun a1 ha1 => ?_
          refine RowI.place ht8.row hk0' (by rw [tab_length]; omega) fun a2 ha2 => ?_
          rw [e1] at ha1
          rw [e2] at ha2
          have fin : idxK 1 t (i : Int) fun a35 => storeC a35 (vI (w64 ((inn L (gl L d) i c).2 + (gl L d (i + 1 + c)).2))) w8 fun w10 =>
              ∃ k_7_n, impl_lengths.emb7 a s t i (w64 (k + 1)) = impl_lengths.emb7 a s t i k_7_n ∧
          ((i : Int) + 1 ≤ k_7_n ∧ k_7_n ≤ L.length ∧ OwnI w10 w.heap.size s (tab L.length fun j => if j = i then (inn L (gl L d) i (k_7_n - i - 1).toNat).1 else (gl L d j).1) ∧
          OwnI w10 w.heap.size t (tab L.length fun j => if j = i then (inn L (gl L d) i (k_7_n - i - 1).toNat).2 else (gl L d j).2) ∧ Below w.heap.size w w10) ∧ (L.length - k_7_n).toNat < (L.length - k).toNat := by
            refine Own.put ht8 h3 (by simp [tab_length]; omega) ?_
            intro w10 ht10 hg10 _
            have hs10 := hs8.kept hg10 (fun g hg h => hne2 g h hg)
            have hb10 := hb8.grown hg10 hb8.size (fun g hg => (ht8.lt g hg).1)
            rw [cv] at ht10
            have ee : ∀ (f : Nat → Int) (u v : Int), (fun j => if j = i then v else if j = i then u else f j) = fun j => if j = i then v else f j := fun f u v => by funext j; split <;> rfl
            rw [ee] at ht10
            refine next w10 _ _ hs10 ht10 hb10 hkl ?_
            rw [inn, if_neg hno, if_neg h9]
          exact ⟨load_int ha1 (load_int ha2 fin), load_int ha2 (load_int ha1 fin)⟩
      · rw [impl_lengths.A7_2_s]
        have ec : c = d := by omega
        subst ec
        refine ⟨(i : Int) - 1, by rw [w64_id (by omega) (by omega)], ⟨by omega, by omega, ?_, ?_, hb5⟩, by omega⟩
        · rw [show ((L.length : Int) - 1 - ((i : Int) - 1)).toNat = c + 1 by omega]
          rw [tab_congr (g := fun j => if j = i then (inn L (gl L c) i c).1 else (gl L c j).1) (fun j hj => by simp only [gl]; rw [show L.length - 1 - c = i by omega]; by_cases hji : j = i <;> simp only [hji, if_true, if_false])]
          exact hs5
        · rw [show ((L.length : Int) - 1 - ((i : Int) - 1)).toNat = c + 1 by omega]
          rw [tab_congr (g := fun j => if j = i then (inn L (gl L c) i c).2 else (gl L c j).2) (fun j hj => by simp only [gl]; rw [show L.length - 1 - c = i by omega]; by_cases hji : j = i <;> simp only [hji, if_true, if_false])]
          exact ht5
    · rw [impl_lengths.A3_0_s]
      rw [show ((L.length : Int) - 1 - i).toNat = L.length by omega] at hs ht
      exact ⟨s, t, rfl, hs, ht, hb⟩
  refine drew_intro fun w1 hd => ?_
  have two : ∀ (P : Sl → Sl → World → Prop), (∀ s t w3, OwnI w3 w.heap.size s (tab L.length fun j => (gl L 0 j).1) → OwnI w3 w.heap.size t (tab L.length fun j => (gl L 0 j).1) → Below w.heap.size w w3 → (∀ g, s.blk = some g → t.blk ≠ some g) → P s t w3) →
      sem1 .sl PP (Instr.makeSlice T_Sint (vI (a.n : Int)) (vI (a.n : Int))) w1 fun r w2 => sem1 .sl PP (Instr.makeSlice T_Sint (vI (a.n : Int)) (vI (a.n : Int))) w2 fun r2 w3 => P r r2 w3 := by
    intro P hP
    have hsz : w1.heap.size = w.heap.size := by rw [hd.heap']
    refine make_own oneInt (B := w.heap.size) (by omega) (by omega) (by omega) ?_
    intro s w2 hs hg2 hn2
    have hb2 : Below w.heap.size w w2 := (hd.below _).trans ((below_of_grow hg2).mono (by omega))
    refine make_own oneInt (B := w.heap.size) hb2.size (by omega) (by omega) ?_
    intro t w3 ht hg3 hn3
    have hs3 := hs.kept hg3 (fun g _ => by simp)
    rw [han] at hs3 ht
    rw [show ((L.length : Nat) : Int).toNat = L.length by omega, rep (fun j => (gl L 0 j).1) (fun j => rfl)] at hs3 ht
    refine hP s t w3 hs3 ht (hb2.trans ((below_of_grow hg3).mono hb2.size)) fun g hg hg' => ?_
    have h1 := (hs.lt g hg).2
    rcases hn3 g hg' with h2 | h2
    · simp [Sl.blk, Sl.nil] at h2
    · omega
  exact ⟨two _ fun s t w3 h1 h2 h3 h4 => main s t w3 h1 h2 h3 h4, two _ fun s t w3 h1 h2 h3 h4 => main t s w3 h2 h1 h3 (fun g hg hg' => h4 g hg' hg)⟩
end Go.Proofs.Ytdchjhhpbdekeaa

/- Plain law: ascending chains, told from their ends. -/
namespace Go.Proofs.Ytdchjhhpbdekeaa
open Go Go.RowKit
set_option maxRecDepth 100000

/-- An ascending chain of m places that begins at i. -/
inductive Fr (L : List Int) : Nat → Nat → Prop
  | one {i : Nat} : i < L.length → Fr L i 1
  | cons {i k m : Nat} : i < k → k < L.length → L.getD i 0 < L.getD k 0 → Fr L k m → Fr L i (m + 1)
/-- An ascending chain of m places that ends at k. -/
inductive En (L : List Int) : Nat → Nat → Prop
  | one {k : Nat} : k < L.length → En L k 1
  | snoc {i k m : Nat} : i < k → k < L.length → L.getD i 0 < L.getD k 0 → En L i m → En L k (m + 1)
theorem Fr.pos {L i m} (h : Fr L i m) : 1 ≤ m := by cases h <;> omega
theorem En.pos {L i m} (h : En L i m) : 1 ≤ m := by cases h <;> omega
theorem Fr.lt {L i m} (h : Fr L i m) : i < L.length := by cases h <;> omega
theorem Fr.toEn {L : List Int} {i m : Nat} (h : Fr L i m) : ∀ p, En L i p → ∃ k, En L k (p + m - 1) := by
  induction h with
  | one hi => exact fun p hp => ⟨_, by simpa using hp⟩
  | @cons i k m hik hk hlt _ ih =>
    intro p hp
    obtain ⟨k', h⟩ := ih (p + 1) (.snoc hik hk hlt hp)
    exact ⟨k', by rw [show p + (m + 1) - 1 = p + 1 + m - 1 by omega]; exact h⟩
theorem En.toFr {L : List Int} {k m : Nat} (h : En L k m) : ∀ p, Fr L k p → ∃ i, Fr L i (p + m - 1) := by
  induction h with
  | one hi => exact fun p hp => ⟨_, by simpa using hp⟩
  | @snoc i k m hik hk hlt _ ih =>
    intro p hp
    obtain ⟨k', h⟩ := ih (p + 1) (.cons hik hk hlt hp)
    exact ⟨k', by rw [show p + (m + 1) - 1 = p + 1 + m - 1 by omega]; exact h⟩
theorem Fr.le {L i m} (h : Fr L i m) : i + m ≤ L.length := by
  induction h with
  | one h => omega
  | cons h1 _ _ _ ih => omega
theorem En.le {L i m} (h : En L i m) : m ≤ i + 1 := by
  induction h with
  | one h => omega
  | snoc h1 _ _ _ ih => omega

/-- A number is the greatest m with a property. -/
def Most (P : Nat → Prop) (x : Int) : Prop := ∃ m : Nat, x = m ∧ P m ∧ ∀ m', P m' → m' ≤ m

/-- The greatest of the first k numbers, 0 at least. -/
def mx (f : Nat → Int) : Nat → Int
  | 0 => 0
  | k + 1 => max (mx f k) (f k)
theorem mx_ge {f : Nat → Int} {n k : Nat} (h : k < n) : f k ≤ mx f n := by
  induction n with
  | zero => omega
  | succ n ih =>
    simp only [mx]
    by_cases hk : k < n
    · have := ih hk; omega
    · have : k = n := by omega
      subst this; omega
theorem mx_mem {f : Nat → Int} {n : Nat} : mx f n = 0 ∨ ∃ k, k < n ∧ mx f n = f k := by
  induction n with
  | zero => exact .inl rfl
  | succ n ih =>
    simp only [mx]
    rcases Int.le_total (mx f n) (f n) with h | h
    · exact .inr ⟨n, by omega, by omega⟩
    · rcases ih with ih | ⟨k, hk, he⟩
      · exact .inl (by omega)
      · exact .inr ⟨k, by omega, by omega⟩
theorem mx_nonneg {f : Nat → Int} {n : Nat} : 0 ≤ mx f n := by
  induction n with
  | zero => exact Int.le_refl _
  | succ n ih => simp only [mx]; omega
def enI (L : List Int) (f : Nat → Int) (k : Nat) : Nat → Int
  | 0 => 1
  | i + 1 => if L.getD i 0 < L.getD k 0 then max (enI L f k i) (w64 (f i + 1)) else enI L f k i
def enT (L : List Int) : Nat → Nat → Int
  | 0, _ => 0
  | k + 1, j => if j = k then enI L (enT L k) k k else enT L k j
theorem enI_spec {L : List Int} (hL : L.length < 2^38) {f : Nat → Int} {k : Nat} (hk : k < L.length) (hv : ∀ i, i < k → Most (En L i) (f i)) : ∀ c, c ≤ k →
    1 ≤ enI L f k c ∧ (enI L f k c = 1 ∨ ∃ i, i < c ∧ L.getD i 0 < L.getD k 0 ∧ enI L f k c = f i + 1) ∧ ∀ i, i < c → L.getD i 0 < L.getD k 0 → f i + 1 ≤ enI L f k c
  | 0, _ => ⟨by simp [enI], .inl rfl, fun i hi => by omega⟩
  | c + 1, hc => by
    obtain ⟨h1, h2, h3⟩ := enI_spec hL hk hv c (by omega)
    obtain ⟨m, hm, hf, _⟩ := hv c (by omega)
    have hle := hf.le
    have hw : w64 (f c + 1) = f c + 1 := w64_id (by omega) (by omega)
    rw [enI, hw]
    split
    · rename_i hlt
      refine ⟨by omega, ?_, fun i hi hl => ?_⟩
      · rcases Int.le_total (enI L f k c) (f c + 1) with h | h
        · exact .inr ⟨c, by omega, hlt, by omega⟩
        · rcases h2 with h2 | ⟨i, a, b, d⟩
          · exact .inl (by omega)
          · exact .inr ⟨i, by omega, b, by omega⟩
      · by_cases hic : i < c
        · have := h3 i hic hl; omega
        · have : i = c := by omega
          subst this; omega
    · rename_i hlt
      refine ⟨h1, h2.imp id (fun ⟨i, a, b, d⟩ => ⟨i, by omega, b, d⟩), fun i hi hl => ?_⟩
      by_cases hic : i < c
      · exact h3 i hic hl
      · have : i = c := by omega
        subst this; exact absurd hl hlt
theorem enT_spec {L : List Int} (hL : L.length < 2^38) : ∀ d, d ≤ L.length → ∀ j, j < d → Most (En L j) (enT L d j)
  | 0, _, j, h => by omega
  | d + 1, hd, j, hj => by
    rw [enT]
    split
    · rename_i he
      subst he
      obtain ⟨a1, a2, a3⟩ := enI_spec hL (k := j) (by omega) (f := enT L j) (fun i hi => enT_spec hL j (by omega) i hi) j (Nat.le_refl _)
      refine ⟨(enI L (enT L j) j j).toNat, by omega, ?_, fun m' hm' => ?_⟩
      · rcases a2 with a2 | ⟨i, b1, b2, b3⟩
        · rw [a2]; exact .one (by omega)
        · obtain ⟨m, hm, hf, _⟩ := enT_spec hL j (by omega) i b1
          rw [b3, show (enT L j i + 1).toNat = m + 1 by omega]
          exact .snoc b1 (by omega) b2 hf
      · cases hm' with
        | one _ => omega
        | snoc c1 c2 c3 c4 =>
          rename_i i m
          have := a3 i c1 c3
          obtain ⟨m2, hm2, _, hmax⟩ := enT_spec hL j (by omega) i c1
          have := hmax m c4
          omega
    · exact enT_spec hL d (by omega) j (by omega)
end Go.Proofs.Ytdchjhhpbdekeaa

/- Plain law: the longest ascending pattern, told from both ends. -/
namespace Go.Proofs.Ytdchjhhpbdekeaa
open Go Go.RowKit
set_option maxRecDepth 100000

theorem inn_spec {L : List Int} (hp : ∀ i j, i < j → j < L.length → L.getD i 0 ≠ L.getD j 0) {val : Nat → Int × Int} {i : Nat} (hi : i < L.length) (hL : L.length < 2^38)
    (hv : ∀ k, i < k → k < L.length → Most (Fr L k) (val k).1) : ∀ c, i + c < L.length →
    1 ≤ (inn L val i c).1 ∧ (inn L val i c).1 ≤ L.length ∧ ((inn L val i c).1 = 1 ∨ ∃ k, i < k ∧ k < i + 1 + c ∧ L.getD i 0 < L.getD k 0 ∧ (inn L val i c).1 = (val k).1 + 1) ∧
    ∀ k, i < k → k < i + 1 + c → L.getD i 0 < L.getD k 0 → (val k).1 + 1 ≤ (inn L val i c).1
  | 0, _ => ⟨by simp [inn], by simp [inn]; omega, .inl rfl, fun k h1 h2 => by omega⟩
  | c + 1, hc => by
    obtain ⟨h1, h2, h3, h4⟩ := inn_spec hp hi hL hv c (by omega)
    obtain ⟨m, hm, hf, _⟩ := hv (i + 1 + c) (by omega) (by omega)
    have hle := hf.le
    have hpos := hf.pos
    have hw : w64 ((val (i + 1 + c)).1 + 1) = (val (i + 1 + c)).1 + 1 := w64_id (by omega) (by omega)
    have hne := hp i (i + 1 + c) (by omega) (by omega)
    rw [inn, hw]
    split
    · rename_i hs
      refine ⟨h1, h2, h3.imp id (fun ⟨k, a, b, d, e⟩ => ⟨k, a, by omega, d, e⟩), fun k hk1 hk2 hlt => ?_⟩
      by_cases hk : k < i + 1 + c
      · exact h4 k hk1 hk hlt
      · have : k = i + 1 + c := by omega
        subst this
        rcases hs with hs | hs <;> omega
    · rename_i hs
      have hlt : L.getD i 0 < L.getD (i + 1 + c) 0 := by
        have : ¬ L.getD (i + 1 + c) 0 < L.getD i 0 := fun h => hs (.inl h)
        omega
      split
      · rename_i hs2
        refine ⟨by simp only; omega, by simp only; omega, .inr ⟨i + 1 + c, by omega, by omega, hlt, rfl⟩, fun k hk1 hk2 hlt => ?_⟩
        by_cases hk : k < i + 1 + c
        · have := h4 k hk1 hk hlt; simp only; omega
        · have : k = i + 1 + c := by omega
          subst this; simp
      · rename_i hs2
        have hs3 : ¬ ((val (i + 1 + c)).1 + 1 < (inn L val i c).1) := fun h => hs (.inr h)
        refine ⟨h1, h2, h3.imp id (fun ⟨k, a, b, d, e⟩ => ⟨k, a, by omega, d, e⟩), fun k hk1 hk2 hlt => ?_⟩
        by_cases hk : k < i + 1 + c
        · exact h4 k hk1 hk hlt
        · have : k = i + 1 + c := by omega
          subst this; simp only; omega
theorem gl_spec {L : List Int} (hp : ∀ i j, i < j → j < L.length → L.getD i 0 ≠ L.getD j 0) (hL : L.length < 2^38) : ∀ d, d ≤ L.length → ∀ j, L.length ≤ j + d → j < L.length → Most (Fr L j) (gl L d j).1
  | 0, _, j, h1, h2 => by omega
  | d + 1, hd, j, h1, h2 => by
    rw [gl]
    split
    · rename_i hj
      obtain ⟨a1, a2, a3, a4⟩ := inn_spec hp h2 hL (val := gl L d) (fun k hk1 hk2 => gl_spec hp hL d (by omega) k (by omega) hk2) d (by omega)
      refine ⟨(inn L (gl L d) j d).1.toNat, by omega, ?_, fun m' hm' => ?_⟩
      · rcases a3 with a3 | ⟨k, b1, b2, b3, b4⟩
        · rw [a3]; exact .one h2
        · obtain ⟨m, hm, hf, _⟩ := gl_spec hp hL d (by omega) k (by omega) (by omega)
          rw [b4, show ((gl L d k).1 + 1).toNat = m + 1 by omega]
          exact .cons b1 (by omega) b3 hf
      · cases hm' with
        | one _ => omega
        | cons c1 c2 c3 c4 =>
          rename_i k m
          have := a4 k c1 (by omega) c3
          obtain ⟨m2, hm2, _, hmax⟩ := gl_spec hp hL d (by omega) k (by omega) c2
          have := hmax m c4
          omega
    · exact gl_spec hp hL d (by omega) j (by omega) h2

theorem lis_eq {L : List Int} {f g : Nat → Int} (hf : ∀ i, i < L.length → Most (Fr L i) (f i)) (hg : ∀ k, k < L.length → Most (En L k) (g k)) : mx f L.length = mx g L.length := by
  have h1 : mx f L.length ≤ mx g L.length := by
    rcases mx_mem (f := f) (n := L.length) with h | ⟨i, hi, he⟩
    · rw [h]; exact mx_nonneg
    · obtain ⟨m, hm, hfr, _⟩ := hf i hi
      obtain ⟨k, hk⟩ := hfr.toEn 1 (.one hi)
      rw [show 1 + m - 1 = m by omega] at hk
      have hkl : k < L.length := by cases hk <;> omega
      obtain ⟨m2, hm2, _, hmax⟩ := hg k hkl
      have := hmax _ hk
      have := mx_ge (f := g) hkl
      omega
  have h2 : mx g L.length ≤ mx f L.length := by
    rcases mx_mem (f := g) (n := L.length) with h | ⟨i, hi, he⟩
    · rw [h]; exact mx_nonneg
    · obtain ⟨m, hm, hfr, _⟩ := hg i hi
      obtain ⟨k, hk⟩ := hfr.toFr 1 (.one hi)
      obtain ⟨m2, hm2, _, hmax⟩ := hf k hk.lt
      have := hmax _ hk
      have := mx_ge (f := f) hk.lt
      omega
  omega

end Go.Proofs.Ytdchjhhpbdekeaa

/- What each function does, step by step, written by a program (Gen.lean); each equation is checked by the kernel. -/
namespace Go.Proofs.Ytdchjhhpbdekeaa
open Go
set_option linter.unusedVariables false
set_option maxRecDepth 100000
namespace spec_l20Up
@[reducible] def cfg : Cfg := ⟨44, [(8, [0, 3, 4, 5, 6, 7]), (4, [0, 3, 4, 5])], [(3, [0, 3, 4, 5, 6, 7]), (2, [0, 3, 4, 5, 6]), (1, [0, 3, 4, 5]), (0, [3])], [], [2], [10], [101, 107, 112, 15, 21, 124, 76, 137, 28, 115, 91, 81, 130], [138, 140, 82, 6, 86, 85, 132]⟩
def q2 (pr : Prims) (R : Ending → World → Prop) : Exit → Env → World → Prop := fun ex e w => normQ ex (fun e w => contE pr cfg (sub (codeOf Try.f95) [1, 1, 1, 1]) (fun e w => wpC pr PP cfg (DD pr) (sub (codeOf Try.f95) [1, 1, 1, 1]) (retQ Try.f95.results.toList R) e w) e w) (retQ Try.f95.results.toList R) e w
def q3 (pr : Prims) (R : Ending → World → Prop) : Exit → Env → World → Prop := fun ex e w => blockQ ex 0 (q2 pr R) e w
def q4 (pr : Prims) (k : Env → World → Prop) (Q : Exit → Env → World → Prop) : Exit → Env → World → Prop := fun ex e w => normQ ex (fun e w => contE pr cfg (sub (codeOf Try.f95) [1, 1, 1, 0, 1, 0, 0, 1, 1]) (fun e w => wpC pr PP cfg (DD pr) (sub (codeOf Try.f95) [1, 1, 1, 0, 1, 0, 0, 1, 1]) (fun ex e w => normQ ex (fun e' w' => k (Env.restr e' (lookN cfg.loops (keyOf (sub (codeOf Try.f95) [1, 1, 1, 0, 1, 0, 0])))) w') Q e w) e w) e w) (fun ex e w => normQ ex (fun e' w' => k (Env.restr e' (lookN cfg.loops (keyOf (sub (codeOf Try.f95) [1, 1, 1, 0, 1, 0, 0])))) w') Q e w) e w
def q5 (pr : Prims) (k : Env → World → Prop) (Q : Exit → Env → World → Prop) : Exit → Env → World → Prop := fun ex e w => blockQ ex 1 (q4 pr k Q) e w
def q6 (pr : Prims) (k : Env → World → Prop) (Q : Exit → Env → World → Prop) : Exit → Env → World → Prop := fun ex e w => normQ ex (fun e w => contE pr cfg (sub (codeOf Try.f95) [1, 1, 1, 0, 1, 0, 0, 1, 0, 0, 1, 1]) (fun e w => wpC pr PP cfg (DD pr) (sub (codeOf Try.f95) [1, 1, 1, 0, 1, 0, 0, 1, 0, 0, 1, 1]) (q5 pr k Q) e w) e w) (q5 pr k Q) e w
def q7 (pr : Prims) (k : Env → World → Prop) (Q : Exit → Env → World → Prop) : Exit → Env → World → Prop := fun ex e w => blockQ ex 2 (q6 pr k Q) e w
def emb4 (p_0 : Sl) (best_3 : Int) (ends_4 : Sl) (k_5 : Int) : Env := [(0, Sl.v p_0), (3, vI best_3), (4, Sl.v ends_4), (5, vI k_5)]
def emb8 (p_0 : Sl) (best_3 : Int) (ends_4 : Sl) (k_5 : Int) (n_6 : Int) (i_7 : Int) : Env := [(0, Sl.v p_0), (3, vI best_3), (4, Sl.v ends_4), (5, vI k_5), (6, vI n_6), (7, vI i_7)]
def x2 (p_0 : Sl) (best_3 : Int) (ends_4 : Sl) (k_5 : Int) (n_6 : Int) : Env := [(0, Sl.v p_0), (3, vI best_3), (4, Sl.v ends_4), (5, vI k_5), (6, vI n_6)]
def x0 (best_3 : Int) : Env := [(3, vI best_3)]
def S8 (pr : Prims) (Q : Exit → Env → World → Prop) : (Env → World → Prop) → Env → World → Prop := fun k e w => wpC pr PP cfg (DD pr) (sub (codeOf Try.f95) [1, 1, 1, 0, 1, 0, 0, 1, 0, 0, 1, 0, 1, 0, 0]) (fun ex e w => normQ ex (fun e' w' => k (Env.restr e' (lookN cfg.loops (keyOf (sub (codeOf Try.f95) [1, 1, 1, 0, 1, 0, 0, 1, 0, 0, 1, 0, 1, 0, 0])))) w') Q e w) e w
def S4 (pr : Prims) (Q : Exit → Env → World → Prop) : (Env → World → Prop) → Env → World → Prop := fun k e w => wpC pr PP cfg (DD pr) (sub (codeOf Try.f95) [1, 1, 1, 0, 1, 0, 0]) (fun ex e w => normQ ex (fun e' w' => k (Env.restr e' (lookN cfg.loops (keyOf (sub (codeOf Try.f95) [1, 1, 1, 0, 1, 0, 0])))) w') Q e w) e w
def B8 (pr : Prims) (p_0 : Sl) (best_3 : Int) (ends_4 : Sl) (k_5 : Int) (n_6 : Int) (i_7 : Int) (w : World) (k : Env → World → Prop) (Q : Exit → Env → World → Prop) : Prop :=
  S8 pr Q k (emb8 p_0 best_3 ends_4 k_5 n_6 i_7) w
def L8 (pr : Prims) (p_0 : Sl) (best_3 : Int) (ends_4 : Sl) (k_5 : Int) (n_6 : Int) (i_7 : Int) (w : World) (Q : Exit → Env → World → Prop) : Prop :=
  pr.loop (S8 pr Q) (emb8 p_0 best_3 ends_4 k_5 n_6 i_7) w
def B4 (pr : Prims) (p_0 : Sl) (best_3 : Int) (ends_4 : Sl) (k_5 : Int) (w : World) (k : Env → World → Prop) (Q : Exit → Env → World → Prop) : Prop :=
  S4 pr Q k (emb4 p_0 best_3 ends_4 k_5) w
def L4 (pr : Prims) (p_0 : Sl) (best_3 : Int) (ends_4 : Sl) (k_5 : Int) (w : World) (Q : Exit → Env → World → Prop) : Prop :=
  pr.loop (S4 pr Q) (emb4 p_0 best_3 ends_4 k_5) w
def E (pr : Prims) (p_0 : Sl) (w : World) (R : Ending → World → Prop) : Prop :=
  wpC pr PP cfg (DD pr) (codeOf Try.f95) (retQ Try.f95.results.toList R) (argE 0 [Sl.v p_0]) w
theorem B8_eq (pr : Prims) (p_0 : Sl) (best_3 : Int) (ends_4 : Sl) (k_5 : Int) (n_6 : Int) (i_7 : Int) (w : World) (k : Env → World → Prop) (Q : Exit → Env → World → Prop) : B8 pr p_0 best_3 ends_4 k_5 n_6 i_7 w k Q = (
  bif decide (i_7 < k_5) then (
  pr.idxK 1 p_0 i_7 fun (a8 : Addr) =>
  pr.load1 (.int .i64) a8 w fun (ξ9 : Int) =>
  pr.idxK 1 p_0 k_5 fun (a10 : Addr) =>
  pr.load1 (.int .i64) a10 w fun (ξ11 : Int) =>
  pr.drewAll w fun ω12 =>
  bif decide (ξ9 < ξ11) then (
  pr.idxK 1 ends_4 i_7 fun (a13 : Addr) =>
  pr.load1 (.int .i64) a13 ω12 fun (ξ14 : Int) =>
  pr.pcall1 (.int .i64) PP F.spec_l1Max #[vI n_6, vI (w64 (ξ14 + 1))] fun (ρ15 : Int) =>
  k (emb8 p_0 best_3 ends_4 k_5 ρ15 (w64 (i_7 + 1))) ω12)
  else (
  k (emb8 p_0 best_3 ends_4 k_5 n_6 (w64 (i_7 + 1))) ω12))
  else (
  Q (.exit 2) (x2 p_0 best_3 ends_4 k_5 n_6) w)) := by kernel_rfl
theorem B8_s (p_0 : Sl) (best_3 : Int) (ends_4 : Sl) (k_5 : Int) (n_6 : Int) (i_7 : Int) (w : World) (k : Env → World → Prop) (Q : Exit → Env → World → Prop) : B8 std p_0 best_3 ends_4 k_5 n_6 i_7 w k Q = (
  bif decide (i_7 < k_5) then (
  idxK 1 p_0 i_7 fun (a8 : Addr) =>
  load1 (.int .i64) a8 w fun (ξ9 : Int) =>
  idxK 1 p_0 k_5 fun (a10 : Addr) =>
  load1 (.int .i64) a10 w fun (ξ11 : Int) =>
  drewAll w fun ω12 =>
  bif decide (ξ9 < ξ11) then (
  idxK 1 ends_4 i_7 fun (a13 : Addr) =>
  load1 (.int .i64) a13 ω12 fun (ξ14 : Int) =>
  pcall1 (.int .i64) PP F.spec_l1Max #[vI n_6, vI (w64 (ξ14 + 1))] fun (ρ15 : Int) =>
  k (emb8 p_0 best_3 ends_4 k_5 ρ15 (w64 (i_7 + 1))) ω12)
  else (
  k (emb8 p_0 best_3 ends_4 k_5 n_6 (w64 (i_7 + 1))) ω12))
  else (
  Q (.exit 2) (x2 p_0 best_3 ends_4 k_5 n_6) w)) := B8_eq std p_0 best_3 ends_4 k_5 n_6 i_7 w k Q
theorem L8_rule (p_0 : Sl) (best_3 : Int) (ends_4 : Sl) (k_5 : Int) (n_6 : Int) (i_7 : Int) (w : World) (Q : Exit → Env → World → Prop) (I : Int → Int → World → Prop) (μ : Int → Int → World → Nat) (h0 : I n_6 i_7 w)
    (h : ∀ (n_6 : Int) (i_7 : Int) (w' : World), I n_6 i_7 w' → B8 std p_0 best_3 ends_4 k_5 n_6 i_7 w' (fun e2 w2 => ∃ n_6_n i_7_n, e2 = emb8 p_0 best_3 ends_4 k_5 n_6_n i_7_n ∧ I n_6_n i_7_n w2 ∧ μ n_6_n i_7_n w2 < μ n_6 i_7 w') Q) :
    L8 std p_0 best_3 ends_4 k_5 n_6 i_7 w Q := by
  unfold L8
  refine LoopE.intro (σ := Int × Int) (step := S8 std Q) (fun s => emb8 p_0 best_3 ends_4 k_5 s.1 s.2) (fun s w => I s.1 s.2 w) (fun s w => μ s.1 s.2 w) (n_6, i_7) rfl h0 ?_
  intro s w' hI
  have h1 := h s.1 s.2 w' hI
  unfold B8 at h1
  simp only [Prod.exists]
  exact h1
theorem A8_2_eq (pr : Prims) (p_0 : Sl) (best_3 : Int) (ends_4 : Sl) (k_5 : Int) (n_6 : Int) (w : World) (k : Env → World → Prop) (Q : Exit → Env → World → Prop) : (q7 pr k Q) (.exit 2) (x2 p_0 best_3 ends_4 k_5 n_6) w = (
  pr.sem1 .sl PP (Instr.buildSlice T_Sint 1 #[(0, vI n_6)]) w fun (ρ16 : Sl) ω17 =>
  pr.sem1 .sl PP (Builtin.append_ #[T_Sint, T_Sint] T_Sint #[Sl.v ends_4, Sl.v ρ16]) ω17 fun (ρ18 : Sl) ω19 =>
  pr.pcall1 (.int .i64) PP F.spec_l1Max #[vI best_3, vI n_6] fun (ρ20 : Int) =>
  k (emb4 p_0 ρ20 ρ18 (w64 (k_5 + 1))) ω19) := by kernel_rfl
theorem A8_2_s (p_0 : Sl) (best_3 : Int) (ends_4 : Sl) (k_5 : Int) (n_6 : Int) (w : World) (k : Env → World → Prop) (Q : Exit → Env → World → Prop) : (q7 std k Q) (.exit 2) (x2 p_0 best_3 ends_4 k_5 n_6) w = (
  sem1 .sl PP (Instr.buildSlice T_Sint 1 #[(0, vI n_6)]) w fun (ρ16 : Sl) ω17 =>
  sem1 .sl PP (Builtin.append_ #[T_Sint, T_Sint] T_Sint #[Sl.v ends_4, Sl.v ρ16]) ω17 fun (ρ18 : Sl) ω19 =>
  pcall1 (.int .i64) PP F.spec_l1Max #[vI best_3, vI n_6] fun (ρ20 : Int) =>
  k (emb4 p_0 ρ20 ρ18 (w64 (k_5 + 1))) ω19) := A8_2_eq std p_0 best_3 ends_4 k_5 n_6 w k Q
theorem B4_eq (pr : Prims) (p_0 : Sl) (best_3 : Int) (ends_4 : Sl) (k_5 : Int) (w : World) (k : Env → World → Prop) (Q : Exit → Env → World → Prop) : B4 pr p_0 best_3 ends_4 k_5 w k Q = (
  bif decide (k_5 < (p_0.n : Int)) then (
  L8 pr p_0 best_3 ends_4 k_5 1 0 w (q7 pr k Q))
  else (
  Q (.exit 0) (x0 best_3) w)) := by kernel_rfl
theorem B4_s (p_0 : Sl) (best_3 : Int) (ends_4 : Sl) (k_5 : Int) (w : World) (k : Env → World → Prop) (Q : Exit → Env → World → Prop) : B4 std p_0 best_3 ends_4 k_5 w k Q = (
  bif decide (k_5 < (p_0.n : Int)) then (
  L8 std p_0 best_3 ends_4 k_5 1 0 w (q7 std k Q))
  else (
  Q (.exit 0) (x0 best_3) w)) := B4_eq std p_0 best_3 ends_4 k_5 w k Q
theorem L4_rule (p_0 : Sl) (best_3 : Int) (ends_4 : Sl) (k_5 : Int) (w : World) (Q : Exit → Env → World → Prop) (I : Int → Sl → Int → World → Prop) (μ : Int → Sl → Int → World → Nat) (h0 : I best_3 ends_4 k_5 w)
    (h : ∀ (best_3 : Int) (ends_4 : Sl) (k_5 : Int) (w' : World), I best_3 ends_4 k_5 w' → B4 std p_0 best_3 ends_4 k_5 w' (fun e2 w2 => ∃ best_3_n ends_4_n k_5_n, e2 = emb4 p_0 best_3_n ends_4_n k_5_n ∧ I best_3_n ends_4_n k_5_n w2 ∧ μ best_3_n ends_4_n k_5_n w2 < μ best_3 ends_4 k_5 w') Q) :
    L4 std p_0 best_3 ends_4 k_5 w Q := by
  unfold L4
  refine LoopE.intro (σ := Int × Sl × Int) (step := S4 std Q) (fun s => emb4 p_0 s.1 s.2.1 s.2.2) (fun s w => I s.1 s.2.1 s.2.2 w) (fun s w => μ s.1 s.2.1 s.2.2 w) (best_3, ends_4, k_5) rfl h0 ?_
  intro s w' hI
  have h1 := h s.1 s.2.1 s.2.2 w' hI
  unfold B4 at h1
  simp only [Prod.exists]
  exact h1
theorem A4_0_eq (pr : Prims) (best_3 : Int) (w : World) (R : Ending → World → Prop) : (q3 pr R) (.exit 0) (x0 best_3) w = (
  R (.returned (vI best_3)) w) := by kernel_rfl
theorem A4_0_s (best_3 : Int) (w : World) (R : Ending → World → Prop) : (q3 std R) (.exit 0) (x0 best_3) w = (
  R (.returned (vI best_3)) w) := A4_0_eq std best_3 w R
theorem E_eq (pr : Prims) (p_0 : Sl) (w : World) (R : Ending → World → Prop) : E pr p_0 w R = (
  pr.sem1 .sl PP (Instr.buildSlice T_Sint 0 #[]) w fun (ρ0 : Sl) ω1 =>
  L4 pr p_0 0 ρ0 0 ω1 (q3 pr R)) := by kernel_rfl
theorem E_s (p_0 : Sl) (w : World) (R : Ending → World → Prop) : E std p_0 w R = (
  sem1 .sl PP (Instr.buildSlice T_Sint 0 #[]) w fun (ρ0 : Sl) ω1 =>
  L4 std p_0 0 ρ0 0 ω1 (q3 std R)) := E_eq std p_0 w R
theorem drawsOk : drawsOk PP cfg okD (codeOf Try.f95) = true := by kernel_rfl
theorem calls (p_0 : Sl) {w : World} {R : Ending → World → Prop} (h : E std p_0 w R) : Calls PP F.spec_l20Up #[Sl.v p_0] w R :=
  calls_of noCount mixed drawOk Try.func95 rfl (c := cfg) (args := [Sl.v p_0]) rfl (Nat.le_of_ble_eq_true (by kernel_rfl)) drawsOk h
end spec_l20Up

namespace spec_l3Reverse
@[reducible] def cfg : Cfg := ⟨21, [(3, [0, 3, 4])], [(1, [0, 3, 4]), (0, [3])], [], [2], [], [101, 107, 112, 15, 21, 124, 76, 137, 28, 115, 91, 81, 130], [138, 140, 82, 6, 86, 85, 132]⟩
def q2 (pr : Prims) (R : Ending → World → Prop) : Exit → Env → World → Prop := fun ex e w => normQ ex (fun e w => contE pr cfg (sub (codeOf Try.f71) [1, 1, 1]) (fun e w => wpC pr PP cfg (DD pr) (sub (codeOf Try.f71) [1, 1, 1]) (retQ Try.f71.results.toList R) e w) e w) (retQ Try.f71.results.toList R) e w
def q3 (pr : Prims) (R : Ending → World → Prop) : Exit → Env → World → Prop := fun ex e w => blockQ ex 0 (q2 pr R) e w
def emb3 (p_0 : Sl) (out_3 : Sl) (k_4 : Int) : Env := [(0, Sl.v p_0), (3, Sl.v out_3), (4, vI k_4)]
def x0 (out_3 : Sl) : Env := [(3, Sl.v out_3)]
def S3 (pr : Prims) (Q : Exit → Env → World → Prop) : (Env → World → Prop) → Env → World → Prop := fun k e w => wpC pr PP cfg (DD pr) (sub (codeOf Try.f71) [1, 1, 0, 1, 0, 0]) (fun ex e w => normQ ex (fun e' w' => k (Env.restr e' (lookN cfg.loops (keyOf (sub (codeOf Try.f71) [1, 1, 0, 1, 0, 0])))) w') Q e w) e w
def B3 (pr : Prims) (p_0 : Sl) (out_3 : Sl) (k_4 : Int) (w : World) (k : Env → World → Prop) (Q : Exit → Env → World → Prop) : Prop :=
  S3 pr Q k (emb3 p_0 out_3 k_4) w
def L3 (pr : Prims) (p_0 : Sl) (out_3 : Sl) (k_4 : Int) (w : World) (Q : Exit → Env → World → Prop) : Prop :=
  pr.loop (S3 pr Q) (emb3 p_0 out_3 k_4) w
def E (pr : Prims) (p_0 : Sl) (w : World) (R : Ending → World → Prop) : Prop :=
  wpC pr PP cfg (DD pr) (codeOf Try.f71) (retQ Try.f71.results.toList R) (argE 0 [Sl.v p_0]) w
theorem B3_eq (pr : Prims) (p_0 : Sl) (out_3 : Sl) (k_4 : Int) (w : World) (k : Env → World → Prop) (Q : Exit → Env → World → Prop) : B3 pr p_0 out_3 k_4 w k Q = (
  bif decide (k_4 ≥ 0) then (
  pr.idxK 1 p_0 k_4 fun (a4 : Addr) =>
  pr.load1 (.int .i64) a4 w fun (ξ5 : Int) =>
  pr.sem1 .sl PP (Instr.buildSlice T_Sint 1 #[(0, vI ξ5)]) w fun (ρ6 : Sl) ω7 =>
  pr.sem1 .sl PP (Builtin.append_ #[T_Sint, T_Sint] T_Sint #[Sl.v out_3, Sl.v ρ6]) ω7 fun (ρ8 : Sl) ω9 =>
  k (emb3 p_0 ρ8 (w64 (k_4 - 1))) ω9)
  else (
  Q (.exit 0) (x0 out_3) w)) := by kernel_rfl
theorem B3_s (p_0 : Sl) (out_3 : Sl) (k_4 : Int) (w : World) (k : Env → World → Prop) (Q : Exit → Env → World → Prop) : B3 std p_0 out_3 k_4 w k Q = (
  bif decide (k_4 ≥ 0) then (
  idxK 1 p_0 k_4 fun (a4 : Addr) =>
  load1 (.int .i64) a4 w fun (ξ5 : Int) =>
  sem1 .sl PP (Instr.buildSlice T_Sint 1 #[(0, vI ξ5)]) w fun (ρ6 : Sl) ω7 =>
  sem1 .sl PP (Builtin.append_ #[T_Sint, T_Sint] T_Sint #[Sl.v out_3, Sl.v ρ6]) ω7 fun (ρ8 : Sl) ω9 =>
  k (emb3 p_0 ρ8 (w64 (k_4 - 1))) ω9)
  else (
  Q (.exit 0) (x0 out_3) w)) := B3_eq std p_0 out_3 k_4 w k Q
theorem L3_rule (p_0 : Sl) (out_3 : Sl) (k_4 : Int) (w : World) (Q : Exit → Env → World → Prop) (I : Sl → Int → World → Prop) (μ : Sl → Int → World → Nat) (h0 : I out_3 k_4 w)
    (h : ∀ (out_3 : Sl) (k_4 : Int) (w' : World), I out_3 k_4 w' → B3 std p_0 out_3 k_4 w' (fun e2 w2 => ∃ out_3_n k_4_n, e2 = emb3 p_0 out_3_n k_4_n ∧ I out_3_n k_4_n w2 ∧ μ out_3_n k_4_n w2 < μ out_3 k_4 w') Q) :
    L3 std p_0 out_3 k_4 w Q := by
  unfold L3
  refine LoopE.intro (σ := Sl × Int) (step := S3 std Q) (fun s => emb3 p_0 s.1 s.2) (fun s w => I s.1 s.2 w) (fun s w => μ s.1 s.2 w) (out_3, k_4) rfl h0 ?_
  intro s w' hI
  have h1 := h s.1 s.2 w' hI
  unfold B3 at h1
  simp only [Prod.exists]
  exact h1
theorem A3_0_eq (pr : Prims) (out_3 : Sl) (w : World) (R : Ending → World → Prop) : (q3 pr R) (.exit 0) (x0 out_3) w = (
  R (.returned (Sl.v out_3)) w) := by kernel_rfl
theorem A3_0_s (out_3 : Sl) (w : World) (R : Ending → World → Prop) : (q3 std R) (.exit 0) (x0 out_3) w = (
  R (.returned (Sl.v out_3)) w) := A3_0_eq std out_3 w R
theorem E_eq (pr : Prims) (p_0 : Sl) (w : World) (R : Ending → World → Prop) : E pr p_0 w R = (
  pr.sem1 .sl PP (Instr.buildSlice T_Sint 0 #[]) w fun (ρ0 : Sl) ω1 =>
  L3 pr p_0 ρ0 (w64 ((p_0.n : Int) - 1)) ω1 (q3 pr R)) := by kernel_rfl
theorem E_s (p_0 : Sl) (w : World) (R : Ending → World → Prop) : E std p_0 w R = (
  sem1 .sl PP (Instr.buildSlice T_Sint 0 #[]) w fun (ρ0 : Sl) ω1 =>
  L3 std p_0 ρ0 (w64 ((p_0.n : Int) - 1)) ω1 (q3 std R)) := E_eq std p_0 w R
theorem drawsOk : drawsOk PP cfg okD (codeOf Try.f71) = true := by kernel_rfl
theorem calls (p_0 : Sl) {w : World} {R : Ending → World → Prop} (h : E std p_0 w R) : Calls PP F.spec_l3Reverse #[Sl.v p_0] w R :=
  calls_of noCount mixed drawOk Try.func71 rfl (c := cfg) (args := [Sl.v p_0]) rfl (Nat.le_of_ble_eq_true (by kernel_rfl)) drawsOk h
end spec_l3Reverse

end Go.Proofs.Ytdchjhhpbdekeaa

/- The length of a longest ascending part: the model text's. -/
namespace Go.Proofs.Ytdchjhhpbdekeaa
open Go Go.RowKit
set_option maxRecDepth 100000

theorem c_l1Max (a b : Int) : Pure F.spec_l1Max #[vI a, vI b] (vI (max a b)) := by
  intro w
  refine spec_l1Max.calls a b ?_
  rw [spec_l1Max.E_s]
  refine bif_dec (fun h => ?_) (fun h => ?_)
  · exact ⟨by rw [Int.max_eq_left (by omega)], rfl⟩
  · exact ⟨by rw [Int.max_eq_right (by omega)], rfl⟩

/-- The length of a longest ascending pattern. -/
def luV (L : List Int) : Int := mx (enT L L.length) L.length
theorem PermOk.ne {L : List Int} (h : PermOk L) : ∀ i j, i < j → j < L.length → L.getD i 0 ≠ L.getD j 0 := fun i j hij hj => (h j hj).2.2 i hij

theorem mx_congr {f g : Nat → Int} {n : Nat} (h : ∀ j, j < n → f j = g j) : mx f n = mx g n := by
  induction n with
  | zero => rfl
  | succ n ih => simp only [mx]; rw [ih (fun j hj => h j (by omega)), h n (by omega)]

theorem enT_stable (L : List Int) : ∀ d j, j < d → ∀ e, d ≤ e → enT L e j = enT L d j := by
  intro d j hj e he
  induction e with
  | zero => omega
  | succ e ih =>
    by_cases h : d = e + 1
    · rw [h]
    · rw [enT, if_neg (by omega), ih (by omega)]


theorem c_l20Up {w : World} {a : Sl} {L : List Int} (ha : RowI w a L) (hL : L.length < 2^38) :
    Calls PP F.spec_l20Up #[a.v] w fun e w' => e = .returned (vI (luV L)) ∧ Below w.heap.size w w' := by
  have han : a.n = L.length := by have := ha.n; simpa using this
  refine spec_l20Up.calls a ?_
  rw [spec_l20Up.E_s]
  refine lit0 oneInt (B := w.heap.size) (Nat.le_refl _) ?_
  intro t0 w1 hown hg _
  refine spec_l20Up.L4_rule _ _ _ _ _ _ (I := fun be t k w' => 0 ≤ k ∧ k ≤ L.length ∧ be = mx (enT L L.length) k.toNat ∧ OwnI w' w.heap.size t (tab k.toNat (enT L k.toNat)) ∧ Below w.heap.size w w') (μ := fun _ _ k _ => (L.length - k).toNat)
    ⟨by omega, by omega, rfl, hown, below_of_grow hg⟩ ?_
  rintro be t k w' ⟨h0, hk, hbe, ht, hb⟩
  rw [spec_l20Up.B4_s]
  refine bif_dec (fun h3 => ?_) (fun h3 => ?_)
  · refine spec_l20Up.L8_rule _ _ _ _ _ _ _ _ (I := fun n i w2 => 0 ≤ i ∧ i ≤ k ∧ n = enI L (enT L k.toNat) k.toNat i.toNat ∧ Drew w' w2) (μ := fun _ i _ => (k - i).toNat) ⟨by omega, by omega, rfl, Drew.refl _⟩ ?_
    rintro n i w2 ⟨hi0, hi, hn, hd⟩
    have hb2 : Below w.heap.size w w2 := hb.trans (hd.below _)
    have ht2 : OwnI w2 w.heap.size t (tab k.toNat (enT L k.toNat)) := ht.heap hd.heap'
    rw [spec_l20Up.B8_s]
    refine bif_dec (fun h4 => ?_) (fun h4 => ?_)
    · refine RowI.get (ha.grow hb2) hi0 (by omega) ?_
      refine RowI.get (ha.grow hb2) h0 (by omega) ?_
      refine drew_intro fun w3 hd3 => ?_
      have es : (i + 1).toNat = i.toNat + 1 := by omega
      refine bif_dec (fun h5 => ?_) (fun h5 => ?_)
      · refine RowI.get (ht2.heap hd3.heap').row hi0 (by rw [tab_length]; omega) ?_
        rw [tab_getD _ (by omega)]
        refine Pure.pcall1 (s := .int .i64) (c_l1Max _ _) ?_
        refine ⟨_, i + 1, by rw [w64_succ hi0 (by omega)], ⟨by omega, by omega, ?_, hd.trans hd3⟩, by omega⟩
        rw [es, enI, if_pos h5, hn]
      · refine ⟨n, i + 1, by rw [w64_succ hi0 (by omega)], ⟨by omega, by omega, ?_, hd.trans hd3⟩, by omega⟩
        rw [es, enI, if_neg h5, hn]
    · rw [spec_l20Up.A8_2_s]
      have ei : i.toNat = k.toNat := by omega
      rw [ei] at hn
      refine append_int ht2 hb2.size (by rw [tab_length]; omega) ?_
      intro t' w3 ht3 hg3 _
      refine Pure.pcall1 (s := .int .i64) (c_l1Max _ _) ?_
      have es : (k + 1).toNat = k.toNat + 1 := by omega
      have e1 : enT L (k.toNat + 1) k.toNat = n := by rw [enT, if_pos rfl, hn]
      refine ⟨_, t', k + 1, by rw [w64_succ h0 (by omega)], ⟨by omega, by omega, ?_, ?_, hb2.grown hg3 hb2.size (fun g hg => (ht2.lt g hg).1)⟩, by omega⟩
      · rw [es, mx, ← hbe, enT_stable L (k.toNat + 1) k.toNat (by omega) L.length (by omega), e1]
      · rw [es, tab_succ, e1, tab_congr (g := enT L k.toNat) (fun j hj => enT_stable L k.toNat j hj (k.toNat + 1) (by omega))]
        exact ht3
  · rw [spec_l20Up.A4_0_s]
    have e : k.toNat = L.length := by omega
    rw [e] at hbe
    exact ⟨by rw [hbe, luV], hb⟩

end Go.Proofs.Ytdchjhhpbdekeaa

/- The length of a longest ascending pattern: both texts, and the law. -/
namespace Go.Proofs.Ytdchjhhpbdekeaa
open Go Go.RowKit
set_option maxRecDepth 100000

theorem c_longestUp {w : World} {a : Sl} {L : List Int} (ha : RowI w a L) (hL : L.length < 2^38) (hp : ∀ i j, i < j → j < L.length → L.getD i 0 ≠ L.getD j 0) :
    Calls PP F.impl_longestUp #[a.v] w fun e w' => e = .returned (vI (luV L)) ∧ Below w.heap.size w w' := by
  refine impl_longestUp.calls a ?_
  rw [impl_longestUp.E_s]
  refine (c_lengths ha hL).mono ?_
  rintro e w1 ⟨s, t, rfl, hs, _, hb⟩
  refine ⟨s, t, rfl, ?_⟩
  have hsn : s.n = L.length := by have := hs.n; simpa [tab_length] using this
  refine impl_longestUp.L4_rule _ _ _ _ _ _ (I := fun m k w' => w' = w1 ∧ 0 ≤ k ∧ k ≤ L.length ∧ m = mx (fun j => (gl L L.length j).1) k.toNat) (μ := fun _ k _ => (L.length - k).toNat) ⟨rfl, by omega, by omega, rfl⟩ ?_
  rintro m k w' ⟨rfl, h0, hk, hm⟩
  rw [impl_longestUp.B4_s]
  refine bif_dec (fun h3 => ?_) (fun h3 => ?_)
  · refine RowI.get hs.row h0 (by rw [tab_length]; omega) ?_
    rw [tab_getD _ (by omega)]
    refine ⟨_, k + 1, by rw [w64_succ h0 (by omega)], ⟨rfl, by omega, by omega, ?_⟩, by omega⟩
    rw [show (k + 1).toNat = k.toNat + 1 by omega, mx, ← hm, Int.max_def]
    split <;> split <;> omega
  · rw [impl_longestUp.A4_0_s]
    have e : k.toNat = L.length := by omega
    rw [e] at hm
    refine ⟨?_, hb⟩
    rw [hm, luV, lis_eq (L := L) (fun i hi => gl_spec hp hL L.length (Nat.le_refl _) i (by omega) hi) (fun k hk => enT_spec hL L.length (Nat.le_refl _) k hk)]

open Classical in
noncomputable def LongestUpV (L : List Int) : Int := if IsP L then luV L else -1
theorem c_implLongestUp {w : World} {a : Sl} {L : List Int} (ha : RowI w a L) (hL : L.length < 2^38) :
    Calls PP F.impl_LongestUp #[a.v] w fun e w' => e = .returned (vI (LongestUpV L)) ∧ Below w.heap.size w w' := by
  refine impl_LongestUp.calls a ?_
  rw [impl_LongestUp.E_s]
  refine (c_implIsPerm ha hL).mono ?_
  rintro e w1 ⟨rfl, hb⟩
  refine ⟨_, rfl, ?_⟩
  refine bif_intro (fun h => ?_) (fun h => ?_)
  · have h : ¬ IsP L := by simpa using h
    exact ⟨by rw [LongestUpV, if_neg h], hb⟩
  · have h : IsP L := by simpa using h
    refine (c_longestUp (ha.grow hb) hL h.2.ne).mono ?_
    rintro e w2 ⟨rfl, hb2⟩
    exact ⟨_, rfl, by rw [LongestUpV, if_pos h], hb.trans (hb2.mono hb.size)⟩
theorem c_specLongestUp {w : World} {a : Sl} {L : List Int} (ha : RowI w a L) (hL : L.length < 2^38) :
    Calls PP F.spec_LongestUp #[a.v] w fun e w' => e = .returned (vI (LongestUpV L)) ∧ Below w.heap.size w w' := by
  refine spec_LongestUp.calls a ?_
  rw [spec_LongestUp.E_s]
  refine Quiet.call1 (s := .bool) (c_specIsPerm ha hL) ?_
  intro w1 hd
  refine bif_intro (fun h => ?_) (fun h => ?_)
  · have h : ¬ IsP L := by simpa using h
    exact ⟨by rw [LongestUpV, if_neg h], hd.below _⟩
  · have h : IsP L := by simpa using h
    refine (c_l20Up (ha.heap hd.heap') hL).mono ?_
    rintro e w2 ⟨rfl, hb2⟩
    exact ⟨_, rfl, by rw [LongestUpV, if_pos h], (hd.below _).trans (hb2.mono (by rw [hd.heap']; exact Nat.le_refl _))⟩

end Go.Proofs.Ytdchjhhpbdekeaa

/- What each function does, step by step, written by a program (Gen.lean); each equation is checked by the kernel. -/
namespace Go.Proofs.Ytdchjhhpbdekeaa
open Go
set_option linter.unusedVariables false
set_option maxRecDepth 100000
namespace slices_Reverse___int_int_
@[reducible] def cfg : Cfg := ⟨28, [(1, [0, 2, 3])], [(1, [0, 2, 3]), (0, [])], [], [], [], [101, 107, 112, 15, 21, 124, 76, 137, 28, 115, 91, 81, 130], [138, 140, 82, 6, 86, 85, 132]⟩
def q0 (pr : Prims) (R : Ending → World → Prop) : Exit → Env → World → Prop := fun ex e w => blockQ ex 0 (retQ Try.f120.results.toList R) e w
def emb1 (s_0 : Sl) (i_2 : Int) (j_3 : Int) : Env := [(0, Sl.v s_0), (2, vI i_2), (3, vI j_3)]
def x0 : Env := []
def S1 (pr : Prims) (Q : Exit → Env → World → Prop) : (Env → World → Prop) → Env → World → Prop := fun k e w => wpC pr PP cfg (DD pr) (sub (codeOf Try.f120) [1, 0, 0]) (fun ex e w => normQ ex (fun e' w' => k (Env.restr e' (lookN cfg.loops (keyOf (sub (codeOf Try.f120) [1, 0, 0])))) w') Q e w) e w
def B1 (pr : Prims) (s_0 : Sl) (i_2 : Int) (j_3 : Int) (w : World) (k : Env → World → Prop) (Q : Exit → Env → World → Prop) : Prop :=
  S1 pr Q k (emb1 s_0 i_2 j_3) w
def L1 (pr : Prims) (s_0 : Sl) (i_2 : Int) (j_3 : Int) (w : World) (Q : Exit → Env → World → Prop) : Prop :=
  pr.loop (S1 pr Q) (emb1 s_0 i_2 j_3) w
def E (pr : Prims) (s_0 : Sl) (w : World) (R : Ending → World → Prop) : Prop :=
  wpC pr PP cfg (DD pr) (codeOf Try.f120) (retQ Try.f120.results.toList R) (argE 0 [Sl.v s_0]) w
theorem B1_eq (pr : Prims) (s_0 : Sl) (i_2 : Int) (j_3 : Int) (w : World) (k : Env → World → Prop) (Q : Exit → Env → World → Prop) : B1 pr s_0 i_2 j_3 w k Q = (
  bif decide (i_2 < j_3) then (
  pr.drewAll w fun ω1 =>
  pr.idxK 1 s_0 j_3 fun (a2 : Addr) =>
  pr.idxK 1 s_0 i_2 fun (a3 : Addr) =>
  (pr.load1 (.int .i64) a2 ω1 fun (ξ4 : Int) =>
  pr.load1 (.int .i64) a3 ω1 fun (ξ5 : Int) =>
  pr.idxK 1 s_0 i_2 fun (a6 : Addr) =>
  pr.storeC a6 (vI ξ4) ω1 fun ω7 =>
  pr.idxK 1 s_0 j_3 fun (a8 : Addr) =>
  pr.storeC a8 (vI ξ5) ω7 fun ω9 =>
  k (emb1 s_0 (w64 (i_2 + 1)) (w64 (j_3 - 1))) ω9) ∧
  (pr.load1 (.int .i64) a3 ω1 fun (ξ10 : Int) =>
  pr.load1 (.int .i64) a2 ω1 fun (ξ11 : Int) =>
  pr.idxK 1 s_0 i_2 fun (a12 : Addr) =>
  pr.storeC a12 (vI ξ11) ω1 fun ω13 =>
  pr.idxK 1 s_0 j_3 fun (a14 : Addr) =>
  pr.storeC a14 (vI ξ10) ω13 fun ω15 =>
  k (emb1 s_0 (w64 (i_2 + 1)) (w64 (j_3 - 1))) ω15))
  else (
  Q (.exit 0) (x0) w)) := by kernel_rfl
theorem B1_s (s_0 : Sl) (i_2 : Int) (j_3 : Int) (w : World) (k : Env → World → Prop) (Q : Exit → Env → World → Prop) : B1 std s_0 i_2 j_3 w k Q = (
  bif decide (i_2 < j_3) then (
  drewAll w fun ω1 =>
  idxK 1 s_0 j_3 fun (a2 : Addr) =>
  idxK 1 s_0 i_2 fun (a3 : Addr) =>
  (load1 (.int .i64) a2 ω1 fun (ξ4 : Int) =>
  load1 (.int .i64) a3 ω1 fun (ξ5 : Int) =>
  idxK 1 s_0 i_2 fun (a6 : Addr) =>
  storeC a6 (vI ξ4) ω1 fun ω7 =>
  idxK 1 s_0 j_3 fun (a8 : Addr) =>
  storeC a8 (vI ξ5) ω7 fun ω9 =>
  k (emb1 s_0 (w64 (i_2 + 1)) (w64 (j_3 - 1))) ω9) ∧
  (load1 (.int .i64) a3 ω1 fun (ξ10 : Int) =>
  load1 (.int .i64) a2 ω1 fun (ξ11 : Int) =>
  idxK 1 s_0 i_2 fun (a12 : Addr) =>
  storeC a12 (vI ξ11) ω1 fun ω13 =>
  idxK 1 s_0 j_3 fun (a14 : Addr) =>
  storeC a14 (vI ξ10) ω13 fun ω15 =>
  k (emb1 s_0 (w64 (i_2 + 1)) (w64 (j_3 - 1))) ω15))
  else (
  Q (.exit 0) (x0) w)) := B1_eq std s_0 i_2 j_3 w k Q
theorem L1_rule (s_0 : Sl) (i_2 : Int) (j_3 : Int) (w : World) (Q : Exit → Env → World → Prop) (I : Int → Int → World → Prop) (μ : Int → Int → World → Nat) (h0 : I i_2 j_3 w)
    (h : ∀ (i_2 : Int) (j_3 : Int) (w' : World), I i_2 j_3 w' → B1 std s_0 i_2 j_3 w' (fun e2 w2 => ∃ i_2_n j_3_n, e2 = emb1 s_0 i_2_n j_3_n ∧ I i_2_n j_3_n w2 ∧ μ i_2_n j_3_n w2 < μ i_2 j_3 w') Q) :
    L1 std s_0 i_2 j_3 w Q := by
  unfold L1
  refine LoopE.intro (σ := Int × Int) (step := S1 std Q) (fun s => emb1 s_0 s.1 s.2) (fun s w => I s.1 s.2 w) (fun s w => μ s.1 s.2 w) (i_2, j_3) rfl h0 ?_
  intro s w' hI
  have h1 := h s.1 s.2 w' hI
  unfold B1 at h1
  simp only [Prod.exists]
  exact h1
theorem A1_0_eq (pr : Prims) (w : World) (R : Ending → World → Prop) : (q0 pr R) (.exit 0) (x0) w = (
  R (.returned (.tuple #[])) w) := by kernel_rfl
theorem A1_0_s (w : World) (R : Ending → World → Prop) : (q0 std R) (.exit 0) (x0) w = (
  R (.returned (.tuple #[])) w) := A1_0_eq std w R
theorem E_eq (pr : Prims) (s_0 : Sl) (w : World) (R : Ending → World → Prop) : E pr s_0 w R = (
  L1 pr s_0 0 (w64 ((s_0.n : Int) - 1)) w (q0 pr R)) := by kernel_rfl
theorem E_s (s_0 : Sl) (w : World) (R : Ending → World → Prop) : E std s_0 w R = (
  L1 std s_0 0 (w64 ((s_0.n : Int) - 1)) w (q0 std R)) := E_eq std s_0 w R
theorem drawsOk : drawsOk PP cfg okD (codeOf Try.f120) = true := by kernel_rfl
theorem calls (s_0 : Sl) {w : World} {R : Ending → World → Prop} (h : E std s_0 w R) : Calls PP F.slices_Reverse___int_int_ #[Sl.v s_0] w R :=
  calls_of noCount mixed drawOk Try.func120 rfl (c := cfg) (args := [Sl.v s_0]) rfl (Nat.le_of_ble_eq_true (by kernel_rfl)) drawsOk h
end slices_Reverse___int_int_

end Go.Proofs.Ytdchjhhpbdekeaa

/- The library's Reverse over rows of ints. -/
namespace Go.Proofs.Ytdchjhhpbdekeaa
open Go Go.RowKit
set_option maxRecDepth 100000

def rv (L : List Int) (i : Nat) (k : Nat) : Int := if k < i ∨ L.length ≤ k + i then L.getD (L.length - 1 - k) 0 else L.getD k 0

theorem c_Reverse {w : World} {B : Nat} {a : Sl} {L : List Int} (ha : OwnI w B a L) (hL : L.length < 2^38) :
    Calls PP F.slices_Reverse___int_int_ #[a.v] w fun e w' => e = .returned (.tuple #[]) ∧ OwnI w' B a L.reverse ∧ w.grownBy w' a.blk ∧ w'.heap.size = w.heap.size := by
  have han : a.n = L.length := by have := ha.n; simpa using this
  refine slices_Reverse___int_int_.calls a ?_
  rw [slices_Reverse___int_int_.E_s]
  rw [han, w64_id (by omega) (by omega)]
  refine slices_Reverse___int_int_.L1_rule _ _ _ _ _ (I := fun i j w' => 0 ≤ i ∧ j = L.length - 1 - i ∧ i ≤ j + 2 ∧ OwnI w' B a (tab L.length (rv L i.toNat)) ∧ w.grownBy w' a.blk ∧ w'.heap.size = w.heap.size) (μ := fun i _ _ => (L.length - i).toNat)
    ⟨by omega, by omega, by omega, ?_, grownBy_refl _ _, rfl⟩ ?_
  · rw [tab_congr (g := fun k => L.getD k 0) (fun k hk => by simp only [rv]; rw [if_neg (by omega)]), tab_self]; exact ha
  rintro i j w' ⟨h0, hj, hij, ho, hg, hsz⟩
  rw [slices_Reverse___int_int_.B1_s]
  refine bif_dec (fun h3 => ?_) (fun h3 => ?_)
  · obtain ⟨i, rfl⟩ : ∃ m : Nat, i = m := ⟨i.toNat, by omega⟩
    obtain ⟨j, rfl⟩ : ∃ m : Nat, j = m := ⟨j.toNat, by omega⟩
    simp only [Int.toNat_natCast] at ho
    refine drew_intro fun w1 hd => ?_
    have ho1 : OwnI w1 B a (tab L.length (rv L i)) := ho.heap hd.heap'
    have ei : (tab L.length (rv L i)).getD (i : Int).toNat 0 = L.getD i 0 := by rw [Int.toNat_natCast, tab_getD _ (by omega), rv, if_neg (by omega)]
    have ej : (tab L.length (rv L i)).getD (j : Int).toNat 0 = L.getD j 0 := by rw [Int.toNat_natCast, tab_getD _ (by omega), rv, if_neg (by omega)]
    refine RowI.place ho1.row (by omega) (by rw [tab_length]; omega) fun a2 ha2 => ?_
    refine RowI.place ho1.row (by omega) (by rw [tab_length]; omega) fun a3 ha3 => ?_
    rw [ej] at ha2
    rw [ei] at ha3
    have fin : idxK 1 a (i : Int) fun a6 => storeC a6 (vI (L.getD j 0)) w1 fun w2 => idxK 1 a (j : Int) fun a8 => storeC a8 (vI (L.getD i 0)) w2 fun w3 =>
        ∃ i_2_n j_3_n, slices_Reverse___int_int_.emb1 a (w64 ((i : Int) + 1)) (w64 ((j : Int) - 1)) = slices_Reverse___int_int_.emb1 a i_2_n j_3_n ∧
        (0 ≤ i_2_n ∧ j_3_n = L.length - 1 - i_2_n ∧ i_2_n ≤ j_3_n + 2 ∧ OwnI w3 B a (tab L.length (rv L i_2_n.toNat)) ∧ w.grownBy w3 a.blk ∧ w3.heap.size = w.heap.size) ∧ (L.length - i_2_n).toNat < (L.length - (i : Int)).toNat := by
      refine Own.put ho1 (by omega) (by simp [tab_length]; omega) ?_
      intro w2 ho2 hg2 hs2
      refine Own.put ho2 (by omega) (by simp [tab_length]; omega) ?_
      intro w3 ho3 hg3 hs3
      refine ⟨(i : Int) + 1, (j : Int) - 1, by rw [w64_succ (by omega) (by omega), w64_id (n := (j : Int) - 1) (by omega) (by omega)], ⟨by omega, by omega, by omega, ?_, grownBy_trans (grownBy_trans (grownBy_trans hg (hd.grownBy _)) hg2) hg3, ?_⟩, by omega⟩
      · have e1 : (((tab L.length (rv L i)).map vI).set (i : Int).toNat (vI (L.getD j 0))).set (j : Int).toNat (vI (L.getD i 0)) = (tab L.length (rv L (i + 1))).map vI := by
          rw [Int.toNat_natCast, Int.toNat_natCast, ← List.map_set, ← List.map_set, tab_set, tab_set]
          congr 1
          apply tab_congr
          intro k hk
          simp only [rv]
          by_cases hkj : k = j
          · subst hkj
            rw [if_pos rfl, if_pos (by omega)]
            congr 1; omega
          · rw [if_neg hkj]
            by_cases hki : k = i
            · subst hki
              rw [if_pos rfl, if_pos (by omega)]
              congr 1; omega
            · rw [if_neg hki]
              by_cases h5 : k < i ∨ L.length ≤ k + i
              · rw [if_pos h5, if_pos (by omega)]
              · rw [if_neg h5, if_neg (by omega)]
        rw [e1] at ho3
        rw [show ((i : Int) + 1).toNat = i + 1 by omega]
        exact ho3
      · have := hd.heap'
        rw [hs3, hs2, this, hsz]
    exact ⟨load_int ha2 (load_int ha3 fin), load_int ha3 (load_int ha2 fin)⟩
  · rw [slices_Reverse___int_int_.A1_0_s]
    refine ⟨rfl, ?_, hg, hsz⟩
    rw [tab_congr (g := fun k => L.getD (L.length - 1 - k) 0) (fun k hk => by
      simp only [rv]
      by_cases h5 : k < i.toNat ∨ L.length ≤ k + i.toNat
      · rw [if_pos h5]
      · rw [if_neg h5]; congr 1; omega), tab_reverse] at ho
    exact ho
end Go.Proofs.Ytdchjhhpbdekeaa

/- The library's Reverse and Clone over rows of ints. -/

/- The model text's reverse. -/
namespace Go.Proofs.Ytdchjhhpbdekeaa
open Go Go.RowKit
set_option maxRecDepth 100000

theorem c_l3Reverse {w : World} {a : Sl} {L : List Int} (ha : RowI w a L) (hL : L.length < 2^38) :
    Calls PP F.spec_l3Reverse #[a.v] w fun e w' => ∃ s : Sl, e = .returned s.v ∧ OwnI w' w.heap.size s L.reverse ∧ Below w.heap.size w w' := by
  have han : a.n = L.length := by have := ha.n; simpa using this
  refine spec_l3Reverse.calls a ?_
  rw [spec_l3Reverse.E_s]
  refine lit0 oneInt (B := w.heap.size) (Nat.le_refl _) ?_
  intro t0 w1 hown hg _
  rw [han, w64_id (by omega) (by omega)]
  refine spec_l3Reverse.L3_rule _ _ _ _ _ (I := fun t k w' => -1 ≤ k ∧ k < L.length ∧ OwnI w' w.heap.size t (tab (L.length - 1 - k).toNat fun j => L.getD (L.length - 1 - j) 0) ∧ Below w.heap.size w w') (μ := fun _ k _ => (k + 1).toNat)
    ⟨by omega, by omega, ?_, below_of_grow hg⟩ ?_
  · rw [show ((L.length : Int) - 1 - ((L.length : Int) - 1)).toNat = 0 by omega]; exact hown
  rintro t k w' ⟨h0, hk, ht, hb⟩
  rw [spec_l3Reverse.B3_s]
  refine bif_dec (fun h3 => ?_) (fun h3 => ?_)
  · refine RowI.get (ha.grow hb) h3 (by omega) ?_
    refine append_int ht hb.size (by rw [tab_length]; omega) ?_
    intro t' w2 ht2 hg2 _
    refine ⟨t', k - 1, by rw [w64_id (by omega) (by omega)], ⟨by omega, by omega, ?_, hb.grown hg2 hb.size (fun g hg => (ht.lt g hg).1)⟩, by omega⟩
    rw [show ((L.length : Int) - 1 - (k - 1)).toNat = ((L.length : Int) - 1 - k).toNat + 1 by omega, tab_succ]
    rw [show L.length - 1 - ((L.length : Int) - 1 - k).toNat = k.toNat by omega]
    exact ht2
  · rw [spec_l3Reverse.A3_0_s]
    rw [show ((L.length : Int) - 1 - k).toNat = L.length by omega, tab_reverse] at ht
    exact ⟨t, rfl, ht, hb⟩

theorem rev_ne {L : List Int} (hp : ∀ i j, i < j → j < L.length → L.getD i 0 ≠ L.getD j 0) : ∀ i j, i < j → j < L.reverse.length → L.reverse.getD i 0 ≠ L.reverse.getD j 0 := by
  intro i j hij hj
  rw [List.length_reverse] at hj
  rw [← tab_reverse, tab_getD _ (by omega), tab_getD _ hj]
  exact fun e => hp (L.length - 1 - j) (L.length - 1 - i) (by omega) (by omega) e.symm

end Go.Proofs.Ytdchjhhpbdekeaa

/- The longest descending pattern and HasLongRun: both texts, and the laws. -/
namespace Go.Proofs.Ytdchjhhpbdekeaa
open Go Go.RowKit
set_option maxRecDepth 100000

theorem c_reverse {w : World} {a : Sl} {L : List Int} (ha : RowI w a L) (hL : L.length < 2^38) :
    Calls PP F.impl_reverse #[a.v] w fun e w' => ∃ s : Sl, e = .returned s.v ∧ OwnI w' w.heap.size s L.reverse ∧ Below w.heap.size w w' := by
  refine impl_reverse.calls a ?_
  rw [impl_reverse.E_s]
  refine (c_Clone ha hL).mono ?_
  rintro e w1 ⟨s, rfl, hs, hb⟩
  refine ⟨s, rfl, ?_⟩
  refine (c_Reverse hs hL).mono ?_
  rintro e w2 ⟨rfl, hs2, hg, _⟩
  exact ⟨rfl, s, rfl, hs2, hb.grown hg hb.size (fun g hg => (hs.lt g hg).1)⟩

open Classical in
noncomputable def LongestDownV (L : List Int) : Int := if IsP L then luV L.reverse else -1
theorem c_implLongestDown {w : World} {a : Sl} {L : List Int} (ha : RowI w a L) (hL : L.length < 2^38) :
    Calls PP F.impl_LongestDown #[a.v] w fun e w' => e = .returned (vI (LongestDownV L)) ∧ Below w.heap.size w w' := by
  refine impl_LongestDown.calls a ?_
  rw [impl_LongestDown.E_s]
  refine (c_implIsPerm ha hL).mono ?_
  rintro e w1 ⟨rfl, hb⟩
  refine ⟨_, rfl, ?_⟩
  refine bif_intro (fun h => ?_) (fun h => ?_)
  · have h : ¬ IsP L := by simpa using h
    exact ⟨by rw [LongestDownV, if_neg h], hb⟩
  · have h : IsP L := by simpa using h
    refine (c_reverse (ha.grow hb) hL).mono ?_
    rintro e w2 ⟨s, rfl, hs, hb2⟩
    refine ⟨s, rfl, ?_⟩
    have hb12 := hb.trans (hb2.mono hb.size)
    refine (c_longestUp hs.row (by simpa using hL) (rev_ne h.2.ne)).mono ?_
    rintro e w3 ⟨rfl, hb3⟩
    exact ⟨_, rfl, by rw [LongestDownV, if_pos h], hb12.trans (hb3.mono hb12.size)⟩
theorem c_specLongestDown {w : World} {a : Sl} {L : List Int} (ha : RowI w a L) (hL : L.length < 2^38) :
    Calls PP F.spec_LongestDown #[a.v] w fun e w' => e = .returned (vI (LongestDownV L)) ∧ Below w.heap.size w w' := by
  refine spec_LongestDown.calls a ?_
  rw [spec_LongestDown.E_s]
  refine Quiet.call1 (s := .bool) (c_specIsPerm ha hL) ?_
  intro w1 hd
  have hb : Below w.heap.size w w1 := hd.below _
  refine bif_intro (fun h => ?_) (fun h => ?_)
  · have h : ¬ IsP L := by simpa using h
    exact ⟨by rw [LongestDownV, if_neg h], hb⟩
  · have h : IsP L := by simpa using h
    refine (c_l3Reverse (ha.grow hb) hL).mono ?_
    rintro e w2 ⟨s, rfl, hs, hb2⟩
    refine ⟨s, rfl, ?_⟩
    have hb12 := hb.trans (hb2.mono hb.size)
    refine (c_l20Up hs.row (by simpa using hL)).mono ?_
    rintro e w3 ⟨rfl, hb3⟩
    exact ⟨_, rfl, by rw [LongestDownV, if_pos h], hb12.trans (hb3.mono hb12.size)⟩

open Classical in
noncomputable def HasLongRunV (L : List Int) (k m : Int) : Bool := decide (IsP L) && (decide (luV L > k) || decide (luV L.reverse > m))
theorem c_implHasLongRun {w : World} {a : Sl} {L : List Int} (ha : RowI w a L) (hL : L.length < 2^38) (k m : Int) :
    Calls PP F.impl_HasLongRun #[a.v, vI k, vI m] w fun e w' => e = .returned (.bool (HasLongRunV L k m)) ∧ Below w.heap.size w w' := by
  refine impl_HasLongRun.calls a k m ?_
  rw [impl_HasLongRun.E_s]
  refine (c_implIsPerm ha hL).mono ?_
  rintro e w1 ⟨rfl, hb⟩
  refine ⟨_, rfl, ?_⟩
  refine bif_intro (fun h => ?_) (fun h => ?_)
  · have h : IsP L := by simpa using h
    refine (c_longestUp (ha.grow hb) hL h.2.ne).mono ?_
    rintro e w2 ⟨rfl, hb2⟩
    have hb12 := hb.trans (hb2.mono hb.size)
    refine ⟨_, rfl, ?_⟩
    refine bif_dec (fun h2 => ⟨by simp [HasLongRunV, h, h2], hb12⟩) (fun h2 => ?_)
    refine (c_reverse (ha.grow hb12) hL).mono ?_
    rintro e w3 ⟨s, rfl, hs, hb3⟩
    refine ⟨s, rfl, ?_⟩
    have hb13 := hb12.trans (hb3.mono hb12.size)
    refine (c_longestUp hs.row (by simpa using hL) (rev_ne h.2.ne)).mono ?_
    rintro e w4 ⟨rfl, hb4⟩
    exact ⟨_, rfl, by simp [HasLongRunV, h, h2], hb13.trans (hb4.mono hb13.size)⟩
  · have h : ¬ IsP L := by simpa using h
    exact ⟨by simp [HasLongRunV, h], hb⟩
theorem c_specHasLongRun {w : World} {a : Sl} {L : List Int} (ha : RowI w a L) (hL : L.length < 2^38) (k m : Int) :
    Calls PP F.spec_HasLongRun #[a.v, vI k, vI m] w fun e w' => e = .returned (.bool (HasLongRunV L k m)) ∧ Below w.heap.size w w' := by
  refine spec_HasLongRun.calls a k m ?_
  rw [spec_HasLongRun.E_s]
  refine Quiet.call1 (s := .bool) (c_specIsPerm ha hL) ?_
  intro w1 hd
  have hb : Below w.heap.size w w1 := hd.below _
  refine bif_intro (fun h => ?_) (fun h => ?_)
  · have h : IsP L := by simpa using h
    refine (c_l20Up (ha.grow hb) hL).mono ?_
    rintro e w2 ⟨rfl, hb2⟩
    have hb12 := hb.trans (hb2.mono hb.size)
    refine ⟨_, rfl, ?_⟩
    refine bif_dec (fun h2 => ⟨by simp [HasLongRunV, h, h2], hb12⟩) (fun h2 => ?_)
    refine (c_l3Reverse (ha.grow hb12) hL).mono ?_
    rintro e w3 ⟨s, rfl, hs, hb3⟩
    refine ⟨s, rfl, ?_⟩
    have hb13 := hb12.trans (hb3.mono hb12.size)
    refine (c_l20Up hs.row (by simpa using hL)).mono ?_
    rintro e w4 ⟨rfl, hb4⟩
    exact ⟨_, rfl, by simp [HasLongRunV, h, h2], hb13.trans (hb4.mono hb13.size)⟩
  · have h : ¬ IsP L := by simpa using h
    exact ⟨by simp [HasLongRunV, h], hb⟩

end Go.Proofs.Ytdchjhhpbdekeaa

/- The laws' helpers that mark a row and look whether the marks stand. -/
namespace Go.Proofs.Ytdchjhhpbdekeaa
open Go Go.RowKit
set_option maxRecDepth 100000

/-- k, k+1, .. -/
def marks (k : Int) (n : Nat) : List Int := (List.range n).map fun (i : Nat) => k + (i : Int)
theorem marks_length (k : Int) (n : Nat) : (marks k n).length = n := by simp [marks]
theorem marks_getD {k : Int} {n i : Nat} (h : i < n) : (marks k n).getD i 0 = k + i := by simp [marks, List.getD_eq_getElem?_getD, h]
theorem marks_step (L : List Int) (k : Int) {i : Nat} (hi : i < L.length) : (marks k i ++ L.drop i).set i (k + i) = marks k (i + 1) ++ L.drop (i + 1) := by
  have h1 : L.drop i = L[i] :: L.drop (i + 1) := by rw [List.drop_eq_getElem_cons hi]
  have h2 : (marks k i).length = i := marks_length k i
  have h3 : marks k (i + 1) = marks k i ++ [k + (i : Int)] := by simp [marks, List.range_succ]
  rw [h1, List.set_append_right _ _ (by omega), h2, Nat.sub_self, List.set_cons_zero, h3, List.append_assoc]
  rfl

end Go.Proofs.Ytdchjhhpbdekeaa

/- A pass through a stack, as lists: plain facts. -/
namespace Go.Proofs.Ytdchjhhpbdekeaa
open Go
set_option maxRecDepth 100000

/-- The stack stands with its top first. -/
def popW (v : Int) : List Int → List Int → List Int × List Int
  | o, [] => (o, [])
  | o, x :: r => if x < v then popW v (o ++ [x]) r else (o, x :: r)
def stpW (s : List Int × List Int) (v : Int) : List Int × List Int := ((popW v s.1 s.2).1, v :: (popW v s.1 s.2).2)
def runW (L : List Int) : List Int × List Int := L.foldl stpW ([], [])
def passV (L : List Int) : List Int := (runW L).1 ++ (runW L).2
theorem runW_snoc (L : List Int) (v : Int) : runW (L ++ [v]) = stpW (runW L) v := by simp [runW, List.foldl_append]
theorem popW_perm (v : Int) : ∀ (r o : List Int), (popW v o r).1 ++ (popW v o r).2 = o ++ r
  | [], o => by simp [popW]
  | x :: r, o => by
    simp only [popW]
    split
    · rw [popW_perm v r (o ++ [x])]; simp
    · rfl
theorem passV_perm (L : List Int) : (passV L).Perm L := by
  suffices h : ∀ n, ∀ L : List Int, L.length = n → (passV L).Perm L from h _ L rfl
  intro n
  induction n with
  | zero => intro L hL; have : L = [] := List.eq_nil_of_length_eq_zero hL
            subst this; exact List.Perm.refl _
  | succ n ih =>
    intro L hL
    obtain ⟨M, v, rfl⟩ : ∃ M v, L = M ++ [v] := ⟨L.dropLast, L.getLast (by rintro rfl; simp at hL), (List.dropLast_concat_getLast _).symm⟩
    have h1 := ih M (by simpa using hL)
    unfold passV at h1 ⊢
    rw [runW_snoc]
    simp only [stpW]
    have h2 := popW_perm v (runW M).2 (runW M).1
    rw [← h2] at h1
    exact List.perm_middle.trans ((List.Perm.cons v h1).trans (List.perm_append_singleton v M).symm)
theorem passV_length (L : List Int) : (passV L).length = L.length := (passV_perm L).length_eq
theorem popW_all (v : Int) : ∀ (r o : List Int), (∀ x ∈ r, x < v) → popW v o r = (o ++ r, [])
  | [], o, _ => by simp [popW]
  | x :: r, o, h => by
    rw [popW, if_pos (h x (by simp)), popW_all v r _ (fun y hy => h y (by simp [hy]))]
    simp
/-- A number greater than all before it comes last. -/
theorem passV_great {M : List Int} {v : Int} (h : ∀ x ∈ M, x < v) : passV (M ++ [v]) = passV M ++ [v] := by
  have h1 : ∀ x ∈ (runW M).2, x < v := fun x hx => h x ((passV_perm M).mem_iff.1 (by unfold passV; simp [hx]))
  unfold passV
  rw [runW_snoc, stpW, popW_all v _ _ h1]
theorem passV_tail {A : List Int} : ∀ (n : Nat) (T : List Int), T.length = n → (∀ x ∈ A, ∀ y ∈ T, x < y) → T.Pairwise (· < ·) → passV (A ++ T) = passV A ++ T := by
  intro n
  induction n with
  | zero => intro T hT _ _; have : T = [] := List.eq_nil_of_length_eq_zero hT
            subst this; simp
  | succ n ih =>
    intro T hT h1 h2
    obtain ⟨M, v, rfl⟩ : ∃ M v, T = M ++ [v] := ⟨T.dropLast, T.getLast (by rintro rfl; simp at hT), (List.dropLast_concat_getLast _).symm⟩
    rw [List.pairwise_append] at h2
    rw [← List.append_assoc, passV_great, ih M (by simpa using hT) (fun x hx y hy => h1 x hx y (by simp [hy])) h2.1, List.append_assoc]
    intro x hx
    rcases List.mem_append.1 hx with h3 | h3
    · exact h1 x h3 v (by simp)
    · exact h2.2.2 x h3 v (by simp)
/-- What stands at the bottom of the stack stays there while only lesser numbers come. -/
theorem popW_keep (v m : Int) (hv : ¬ m < v) : ∀ (r o : List Int), ∃ r', (popW v o (r ++ [m])).2 = r' ++ [m]
  | [], o => ⟨[], by simp [popW, hv]⟩
  | x :: r, o => by
    simp only [List.cons_append, popW]
    split
    · exact popW_keep v m hv r _
    · exact ⟨x :: r, rfl⟩
theorem fold_keep (m : Int) : ∀ (C : List Int), (∀ x ∈ C, ¬ m < x) → ∀ o r, ∃ r', (C.foldl stpW (o, r ++ [m])).2 = r' ++ [m]
  | [], _, o, r => ⟨r, rfl⟩
  | v :: C, h, o, r => by
    obtain ⟨r', hr⟩ := popW_keep v m (h v (by simp)) r o
    rw [List.foldl_cons]
    have e : stpW (o, r ++ [m]) v = ((popW v o (r ++ [m])).1, (v :: r') ++ [m]) := by simp [stpW, hr]
    rw [e]
    exact fold_keep m C (fun x hx => h x (by simp [hx])) _ _
theorem passV_max {M : List Int} {m : Int} (hm : m ∈ M) (hn : M.Nodup) (h : ∀ x ∈ M, x ≤ m) : ∃ M', passV M = M' ++ [m] := by
  obtain ⟨A, C, rfl⟩ := List.append_of_mem hm
  have h1 : ∀ x ∈ A, x < m := fun x hx => by
    have h2 := h x (by simp [hx])
    have h3 : x ≠ m := by
      rintro rfl
      rw [List.nodup_iff_pairwise_ne, List.pairwise_append] at hn
      exact hn.2.2 x hx x (by simp) rfl
    omega
  have h4 : runW (A ++ m :: C) = C.foldl stpW (stpW (runW A) m) := by simp [runW, List.foldl_append]
  have h5 : ∀ x ∈ (runW A).2, x < m := fun x hx => h1 x ((passV_perm A).mem_iff.1 (by unfold passV; simp [hx]))
  have e : stpW (runW A) m = ((runW A).1 ++ (runW A).2, [] ++ [m]) := by rw [stpW, popW_all m _ _ h5]; rfl
  obtain ⟨r', hr⟩ := fold_keep m C (fun x hx => by have := h x (by simp [hx]); omega) ((runW A).1 ++ (runW A).2) []
  unfold passV
  rw [h4, e, hr]
  exact ⟨_, (List.append_assoc _ _ _).symm⟩

def itW : Nat → List Int → List Int
  | 0, L => L
  | k + 1, L => passV (itW k L)
theorem itW_perm (L : List Int) : ∀ k, (itW k L).Perm L
  | 0 => List.Perm.refl _
  | k + 1 => (passV_perm _).trans (itW_perm L k)
/-- k+1, .., n -/
def seg (k n : Nat) : List Int := (List.range (n - k)).map fun (i : Nat) => (k : Int) + i + 1
theorem mem_seg {k n : Nat} {x : Int} : x ∈ seg k n ↔ (k : Int) < x ∧ x ≤ n := by
  simp only [seg, List.mem_map, List.mem_range]
  constructor
  · rintro ⟨i, hi, rfl⟩; omega
  · rintro ⟨h1, h2⟩; exact ⟨(x - k - 1).toNat, by omega, by omega⟩
theorem seg_pairwise (k n : Nat) : (seg k n).Pairwise (· < ·) := by
  simp only [seg, List.pairwise_map]
  exact List.Pairwise.imp (fun h => by omega) List.pairwise_lt_range
theorem seg_pred {k n : Nat} (h : k < n) : seg k n = ((k : Int) + 1) :: seg (k + 1) n := by
  have : n - k = (n - (k + 1)) + 1 := by omega
  unfold seg
  rw [this, List.range_succ_eq_map, List.map_cons, List.map_map]
  simp only [List.cons.injEq]
  refine ⟨by omega, ?_⟩
  apply List.map_congr_left
  intro i _
  simp only [Function.comp_apply]
  omega
theorem it_shape {L : List Int} {n : Nat} (h : L.Perm (idn n)) : ∀ k, k ≤ n → ∃ M, itW k L = M ++ seg (n - k) n ∧ M.Perm (idn (n - k))
  | 0, _ => ⟨L, by simp [itW, seg], by simpa using h⟩
  | k + 1, hk => by
    obtain ⟨M, h1, h2⟩ := it_shape h k (by omega)
    have hmem : ∀ x, x ∈ M ↔ 1 ≤ x ∧ x ≤ ((n - k : Nat) : Int) := fun x => by rw [h2.mem_iff, mem_idn]
    obtain ⟨M', h3⟩ := passV_max (M := M) (m := ((n - k : Nat) : Int)) ((hmem _).2 (by omega)) (h2.nodup_iff.2 (idn_nodup _)) (fun x hx => ((hmem x).1 hx).2)
    refine ⟨M', ?_, ?_⟩
    · rw [itW, h1, passV_tail _ (seg (n - k) n) rfl (fun x hx y hy => by
        have := (hmem x).1 hx; rw [mem_seg] at hy; omega) (seg_pairwise _ _), h3, List.append_assoc]
      congr 1
      rw [show n - k = (n - (k + 1)) + 1 by omega]
      have := seg_pred (k := n - (k + 1)) (n := n) (by omega)
      rw [this]
      simp
    · have h4 : (M' ++ [((n - k : Nat) : Int)]).Perm (idn (n - k)) := by rw [← h3]; exact (passV_perm M).trans h2
      rw [show n - k = (n - (k + 1)) + 1 by omega, idn_succ] at h4
      have h5 := (List.perm_append_singleton _ _).symm.trans (h4.trans (List.perm_append_singleton _ _))
      rw [show (((n - (k + 1) + 1 : Nat)) : Int) = ((n - (k + 1) : Nat) : Int) + 1 by omega] at h5
      exact List.Perm.cons_inv h5
theorem it_last {L : List Int} (h : IsP L) : itW L.length L = idn L.length := by
  obtain ⟨M, h1, h2⟩ := it_shape h.perm L.length (Nat.le_refl _)
  have : M = [] := by have := h2.length_eq; rw [idn_length] at this; exact List.eq_nil_of_length_eq_zero (by omega)
  subst this
  rw [h1]
  simp [seg, idn]
/-- How often it has to be applied. -/
def Tm (L : List Int) (m : Nat) : Prop := Rising (itW m L) ∧ ∀ j, j < m → ¬ Rising (itW j L)
theorem Tm.unique {L : List Int} {m k : Nat} (h : Tm L m) (h' : Tm L k) : m = k := by
  rcases Nat.lt_trichotomy m k with h1 | h1 | h1
  · exact absurd h.1 (h'.2 m h1)
  · exact h1
  · exact absurd h'.1 (h.2 k h1)
open Classical in
noncomputable def tmV (L : List Int) : Nat := if h : ∃ m, Tm L m then h.choose else 0
theorem Tm.eq {L : List Int} {m : Nat} (h : Tm L m) : tmV L = m := by
  have he : ∃ m, Tm L m := ⟨m, h⟩
  unfold tmV
  rw [dif_pos he]
  exact he.choose_spec.unique h
theorem it_not {L : List Int} (h : IsP L) {k : Nat} (hk : ∀ j, j < k → ¬ Rising (itW j L)) : k ≤ L.length := by
  rcases Nat.lt_or_ge L.length k with h1 | h1
  · exact absurd (by rw [it_last h]; exact rising_idn _) (hk L.length h1)
  · exact h1
end Go.Proofs.Ytdchjhhpbdekeaa

/- What comes out of a stack: both texts do the same. -/
namespace Go.Proofs.Ytdchjhhpbdekeaa
open Go Go.RowKit
set_option maxRecDepth 100000

structure St (w : World) (B : Nat) (out stack : Sl) (o st : List Int) : Prop where
  apt : Apt out stack
  out : OwnI w B out o
  st : OwnI w B stack st.reverse
theorem St.heap {w w' B out stack o st} (h : St w B out stack o st) (hh : w'.heap = w.heap) : St w' B out stack o st := ⟨h.apt, h.out.heap hh, h.st.heap hh⟩
theorem St.n {w B out stack o st} (h : St w B out stack o st) : stack.n = st.length := by have := h.st.n; simpa using this
theorem st_begin {w : World} {B : Nat} (hB : B ≤ w.heap.size) {K : Sl → Sl → World → Prop} (h : ∀ s t w', St w' B s t [] [] → Below B w w' → K s t w') :
    sem1 .sl PP (Instr.buildSlice T_Sint 0 #[]) w fun s w1 => sem1 .sl PP (Instr.buildSlice T_Sint 0 #[]) w1 fun t w2 => K s t w2 := by
  refine lit0 oneInt (B := B) hB ?_
  intro s w1 h0 hg0 hc0
  refine lit0 oneInt (B := B) (by have := hg0.size; omega) ?_
  intro t w2 h1 hg1 hc1
  exact h s t w2 ⟨fun g hg => by simp [Sl.blk, hc0] at hg, h0.kept hg1 (fun _ _ => by simp), h1⟩ (((Below.refl _ _).grown hg0 hB (by simp)).grown hg1 (by have := hg0.size; omega) (by simp))
theorem St.pop {w w' B out stack out' stack' o st x} (h : St w B out stack o (x :: st)) (ht : Own w B T_int stack' ((((x :: st).reverse).map vI).take st.length)) (hb : stack'.blk = stack.blk)
    (ho : OwnI w' B out' (o ++ [x])) (hg : w.grownBy w' out.blk) (hn : Next w out out') : St w' B out' stack' (o ++ [x]) st := by
  refine ⟨?_, ho, ?_⟩
  · exact Apt.next (fun g e1 e2 => h.apt g e1 (hb ▸ e2)) hn (fun g hg' => (ht.lt g hg').2)
  · have h1 : ((((x :: st).reverse).map vI).take st.length) = st.reverse.map vI := by
      rw [← List.map_take]; simp
    rw [h1] at ht
    exact ht.kept hg (fun g hg' e => h.apt g e (hb ▸ hg'))
theorem St.push {w w' B out stack stack' o st v} (h : St w B out stack o st) (ht : OwnI w' B stack' (st.reverse ++ [v])) (hg : w.grownBy w' stack.blk) (hn : Next w stack stack') : St w' B out stack' o (v :: st) := by
  refine ⟨?_, h.out.kept hg (fun g hg' e => h.apt g hg' e), by simpa using ht⟩
  exact (Apt.next h.apt.symm hn (fun g hg' => (h.out.lt g hg').2)).symm
theorem last_rev (x : Int) (r : List Int) : (x :: r).reverse.getD r.length 0 = x := by simp [List.getD_eq_getElem?_getD]
theorem runW_take {L : List Int} {k : Nat} (hk : k < L.length) {o st : List Int} (h : runW (L.take k) = (o, st)) : runW (L.take (k + 1)) = stpW (o, st) (L.getD k 0) := by
  have : L.take (k + 1) = L.take k ++ [L.getD k 0] := by rw [getD_eq hk]; simp
  rw [this, runW_snoc, h]

theorem c_stackPass {w : World} {a : Sl} {L : List Int} (ha : RowI w a L) (hL : L.length < 2^38) :
    Calls PP F.impl_stackPass #[a.v] w fun e w' => ∃ s : Sl, e = .returned s.v ∧ OwnI w' w.heap.size s (passV L) ∧ Below w.heap.size w w' := by
  have han : a.n = L.length := by have := ha.n; simpa using this
  refine impl_stackPass.calls a ?_
  rw [impl_stackPass.E_s]
  refine st_begin (B := w.heap.size) (Nat.le_refl _) ?_
  intro s0 t0 w1 hst hb1
  refine impl_stackPass.L3_rule _ _ _ _ _ _ _ (I := fun out stack k w' => 0 ≤ k ∧ k ≤ L.length ∧ ∃ o st, St w' w.heap.size out stack o st ∧ Below w.heap.size w w' ∧ runW (L.take k.toNat) = (o, st) ∧ o.length + st.length = k.toNat)
    (μ := fun _ _ k _ => (L.length - k).toNat) ⟨by omega, by omega, [], [], hst, hb1, rfl, rfl⟩ ?_
  rintro out stack k w' ⟨h0, hk, o, st, hs, hb, hf, hlen⟩
  rw [impl_stackPass.B3_s]
  refine bif_dec (fun h3 => ?_) (fun h3 => ?_)
  · refine RowI.get (ha.grow hb) h0 (by omega) ?_
    have hkl : k.toNat < L.length := by omega
    refine impl_stackPass.L5_rule _ _ _ _ _ _ _ _ (I := fun out2 stack2 w2 => ∃ o2 st2, St w2 w.heap.size out2 stack2 o2 st2 ∧ Below w.heap.size w w2 ∧ popW (L.getD k.toNat 0) o2 st2 = popW (L.getD k.toNat 0) o st ∧ o2.length + st2.length = k.toNat) (μ := fun _ s _ => s.n)
      ⟨o, st, hs, hb, rfl, hlen⟩ ?_
    rintro out2 stack2 w2 ⟨o2, st2, hs2, hb2, hp, hl2⟩
    have hn := hs2.n
    have fin : popW (L.getD k.toNat 0) o2 st2 = (o2, st2) → impl_stackPass.q11 std (fun e2 w2 => ∃ out_3_n stack_4_n t11_n, e2 = impl_stackPass.emb3 out_3_n stack_4_n a (a.n : Int) t11_n ∧
        (0 ≤ t11_n ∧ t11_n ≤ L.length ∧ ∃ o st, St w2 w.heap.size out_3_n stack_4_n o st ∧ Below w.heap.size w w2 ∧ runW (L.take t11_n.toNat) = (o, st) ∧ o.length + st.length = t11_n.toNat) ∧ (L.length - t11_n).toNat < (L.length - k).toNat)
        (impl_stackPass.q5 std fun e w' => ∃ s : Sl, e = .returned s.v ∧ OwnI w' w.heap.size s (passV L) ∧ Below w.heap.size w w') (.exit 2) (impl_stackPass.x2 out2 stack2 (L.getD k.toNat 0) a (a.n : Int) k) w2 := by
      intro hpp
      rw [impl_stackPass.A5_2_s]
      refine append_int hs2.st hb2.size (by simp; omega) ?_
      intro s' w3 h1 h2 h3
      refine ⟨out2, s', k + 1, by rw [w64_succ h0 (by omega)], ⟨by omega, by omega, o2, L.getD k.toNat 0 :: st2, hs2.push h1 h2 h3, hb2.grown h2 hb2.size (fun g hg => (hs2.st.lt g hg).1), ?_, by simp; omega⟩, by omega⟩
      rw [show (k + 1).toNat = k.toNat + 1 by omega, runW_take hkl hf, stpW, ← hp, hpp]
    rw [impl_stackPass.B5_s]
    refine bif_dec (fun h4 => ?_) (fun h4 => ?_)
    · obtain ⟨x, r, rfl⟩ : ∃ x r, st2 = x :: r := by
        cases st2 with
        | nil => simp at hn; omega
        | cons x r => exact ⟨x, r, rfl⟩
      have hn1 : w64 ((stack2.n : Int) - 1) = (r.length : Int) := by
        simp only [List.length_cons] at hn hl2
        rw [w64_id (by omega) (by omega)]; omega
      rw [hn1]
      refine RowI.get hs2.st.row (by omega) (by simp; omega) ?_
      rw [Int.toNat_natCast, last_rev]
      refine bif_dec (fun h5 => ?_) (fun h5 => ?_)
      · refine drew_intro fun w3 hd => ?_
        have hs3 := hs2.heap hd.heap'
        refine RowI.place hs3.st.row (by omega) (by simp; omega) fun a2 ha2 => ?_
        rw [Int.toNat_natCast, last_rev] at ha2
        refine Own.pop hs3.st (by omega) (by simp; omega) ?_
        intro t ht hbt
        rw [Int.toNat_natCast] at ht
        refine load_int ha2 ?_
        have hb3 := hb2.trans (hd.below _)
        simp only [List.length_cons] at hl2
        refine append_int hs3.out hb3.size (by omega) ?_
        intro s' w4 h1 h2 h3
        refine ⟨s', t, rfl, ⟨o2 ++ [x], r, hs3.pop ht hbt h1 h2 h3, hb3.grown h2 hb3.size (fun g hg => (hs3.out.lt g hg).1), ?_, by simp; omega⟩, ?_⟩
        · rw [← hp]; conv => rhs; rw [popW, if_pos h5]
        · have := ht.n
          simp only [List.length_take, List.length_map, List.length_reverse, List.length_cons] at this hn
          omega
      · exact fin (by rw [popW, if_neg h5])
    · have : st2 = [] := List.eq_nil_of_length_eq_zero (by omega)
      subst this
      exact fin rfl
  · rw [impl_stackPass.A3_0_s]
    have e : k.toNat = L.length := by omega
    rw [e, List.take_length] at hf
    refine (c_Reverse hs.st (by simp; omega)).mono ?_
    rintro e w2 ⟨rfl, hs2, hg2, _⟩
    refine ⟨rfl, ?_⟩
    rw [List.reverse_reverse] at hs2
    have hb2 := hb.grown hg2 hb.size (fun g hg => (hs.st.lt g hg).1)
    have ho2 : OwnI w2 w.heap.size out o := hs.out.kept hg2 (fun g hg' e => hs.apt g hg' e)
    refine append_row oneInt ho2 hb2.size hs2.row (fun v hv => by obtain ⟨x, _, rfl⟩ := List.mem_map.1 hv; exact One.int x) (by simp; omega) ?_
    intro s w3 h1 h2 _ _
    refine ⟨s, rfl, ?_, hb2.grown h2 hb2.size (fun g hg => (ho2.lt g hg).1)⟩
    rw [passV, hf]
    simpa [OwnI] using h1

theorem c_l21Pass {w : World} {a : Sl} {L : List Int} (ha : RowI w a L) (hL : L.length < 2^38) :
    Calls PP F.spec_l21Pass #[a.v] w fun e w' => ∃ s : Sl, e = .returned s.v ∧ OwnI w' w.heap.size s (passV L) ∧ Below w.heap.size w w' := by
  have han : a.n = L.length := by have := ha.n; simpa using this
  refine spec_l21Pass.calls a ?_
  rw [spec_l21Pass.E_s]
  refine st_begin (B := w.heap.size) (Nat.le_refl _) ?_
  intro s0 t0 w1 hst hb1
  refine spec_l21Pass.L4_rule _ _ _ _ _ _ (I := fun out stack k w' => 0 ≤ k ∧ k ≤ L.length ∧ ∃ o st, St w' w.heap.size out stack o st ∧ Below w.heap.size w w' ∧ runW (L.take k.toNat) = (o, st) ∧ o.length + st.length = k.toNat)
    (μ := fun _ _ k _ => (L.length - k).toNat) ⟨by omega, by omega, [], [], hst, hb1, rfl, rfl⟩ ?_
  rintro out stack k w' ⟨h0, hk, o, st, hs, hb, hf, hlen⟩
  rw [spec_l21Pass.B4_s]
  refine bif_dec (fun h3 => ?_) (fun h3 => ?_)
  · have hkl : k.toNat < L.length := by omega
    refine spec_l21Pass.L6_rule _ _ _ _ _ _ (I := fun out2 stack2 w2 => ∃ o2 st2, St w2 w.heap.size out2 stack2 o2 st2 ∧ Below w.heap.size w w2 ∧ popW (L.getD k.toNat 0) o2 st2 = popW (L.getD k.toNat 0) o st ∧ o2.length + st2.length = k.toNat) (μ := fun _ s _ => s.n)
      ⟨o, st, hs, hb, rfl, hlen⟩ ?_
    rintro out2 stack2 w2 ⟨o2, st2, hs2, hb2, hp, hl2⟩
    have hn := hs2.n
    have fin : ∀ w3, Drew w2 w3 → popW (L.getD k.toNat 0) o2 st2 = (o2, st2) → spec_l21Pass.q9 std (fun e2 w2 => ∃ out_3_n stack_4_n k_5_n, e2 = spec_l21Pass.emb4 a out_3_n stack_4_n k_5_n ∧
        (0 ≤ k_5_n ∧ k_5_n ≤ L.length ∧ ∃ o st, St w2 w.heap.size out_3_n stack_4_n o st ∧ Below w.heap.size w w2 ∧ runW (L.take k_5_n.toNat) = (o, st) ∧ o.length + st.length = k_5_n.toNat) ∧ (L.length - k_5_n).toNat < (L.length - k).toNat)
        (spec_l21Pass.q5 std fun e w' => ∃ s : Sl, e = .returned s.v ∧ OwnI w' w.heap.size s (passV L) ∧ Below w.heap.size w w') (.exit 2) (spec_l21Pass.x2 a out2 stack2 k) w3 := by
      intro w3 hd hpp
      have hs3 := hs2.heap hd.heap'
      have hb3 := hb2.trans (hd.below _)
      rw [spec_l21Pass.A6_2_s]
      refine RowI.get (ha.grow hb3) h0 (by omega) ?_
      refine append_int hs3.st hb3.size (by simp; omega) ?_
      intro s' w4 h1 h2 h3
      refine ⟨out2, s', k + 1, by rw [w64_succ h0 (by omega)], ⟨by omega, by omega, o2, L.getD k.toNat 0 :: st2, hs3.push h1 h2 h3, hb3.grown h2 hb3.size (fun g hg => (hs3.st.lt g hg).1), ?_, by simp; omega⟩, by omega⟩
      rw [show (k + 1).toNat = k.toNat + 1 by omega, runW_take hkl hf, stpW, ← hp, hpp]
    rw [spec_l21Pass.B6_s]
    refine bif_dec (fun h4 => ?_) (fun h4 => ?_)
    · obtain ⟨x, r, rfl⟩ : ∃ x r, st2 = x :: r := by
        cases st2 with
        | nil => simp at hn; omega
        | cons x r => exact ⟨x, r, rfl⟩
      have hn1 : w64 ((stack2.n : Int) - 1) = (r.length : Int) := by
        simp only [List.length_cons] at hn hl2
        rw [w64_id (by omega) (by omega)]; omega
      rw [hn1]
      refine RowI.get hs2.st.row (by omega) (by simp; omega) ?_
      rw [Int.toNat_natCast, last_rev]
      refine RowI.get (ha.grow hb2) h0 (by omega) ?_
      refine drew_intro fun w3 hd => ?_
      refine bif_dec (fun h5 => ?_) (fun h5 => ?_)
      · have hs3 := hs2.heap hd.heap'
        refine RowI.get hs3.st.row (by omega) (by simp; omega) ?_
        rw [Int.toNat_natCast, last_rev]
        have hb3 := hb2.trans (hd.below _)
        simp only [List.length_cons] at hl2
        refine append_int hs3.out hb3.size (by omega) ?_
        intro s' w4 h1 h2 h3
        refine Own.pop hs3.st (by omega) (by simp; omega) ?_
        intro t ht hbt
        rw [Int.toNat_natCast] at ht
        refine ⟨s', t, rfl, ⟨o2 ++ [x], r, hs3.pop ht hbt h1 h2 h3, hb3.grown h2 hb3.size (fun g hg => (hs3.out.lt g hg).1), ?_, by simp; omega⟩, ?_⟩
        · rw [← hp]; conv => rhs; rw [popW, if_pos h5]
        · have := ht.n
          simp only [List.length_take, List.length_map, List.length_reverse, List.length_cons] at this hn
          omega
      · exact fin w3 hd (by rw [popW, if_neg h5])
    · have : st2 = [] := List.eq_nil_of_length_eq_zero (by omega)
      subst this
      exact drew_intro fun w3 hd => fin w3 hd rfl
  · rw [spec_l21Pass.A4_0_s]
    have e : k.toNat = L.length := by omega
    rw [e, List.take_length] at hf
    refine (c_l3Reverse hs.st.row (by simp; omega)).mono ?_
    rintro e w2 ⟨t, rfl, hs2, hb2⟩
    refine ⟨_, rfl, ?_⟩
    rw [List.reverse_reverse] at hs2
    have hb3 := hb.trans (hb2.mono hb.size)
    have ho2 : OwnI w2 w.heap.size out o := hs.out.grow hb2
    refine append_row oneInt ho2 hb3.size hs2.row (fun v hv => by obtain ⟨x, _, rfl⟩ := List.mem_map.1 hv; exact One.int x) (by simp; omega) ?_
    intro s w3 h1 h2 _ _
    refine ⟨s, rfl, ?_, hb3.grown h2 hb3.size (fun g hg => (ho2.lt g hg).1)⟩
    rw [passV, hf]
    simpa [OwnI] using h1
end Go.Proofs.Ytdchjhhpbdekeaa

/- What each function does, step by step, written by a program (Gen.lean); each equation is checked by the kernel. -/
namespace Go.Proofs.Ytdchjhhpbdekeaa
open Go
set_option linter.unusedVariables false
set_option maxRecDepth 100000
namespace slices_IsSorted___int_int_
@[reducible] def cfg : Cfg := ⟨21, [(2, [0, 3])], [(1, [0, 3]), (0, [])], [], [2], [4], [101, 107, 112, 15, 21, 124, 76, 137, 28, 115, 91, 81, 130], [138, 140, 82, 6, 86, 85, 132]⟩
def q0 (pr : Prims) (R : Ending → World → Prop) : Exit → Env → World → Prop := fun ex e w => normQ ex (fun e w => contE pr cfg (sub (codeOf Try.f126) [1, 1]) (fun e w => wpC pr PP cfg (DD pr) (sub (codeOf Try.f126) [1, 1]) (retQ Try.f126.results.toList R) e w) e w) (retQ Try.f126.results.toList R) e w
def q1 (pr : Prims) (R : Ending → World → Prop) : Exit → Env → World → Prop := fun ex e w => blockQ ex 0 (q0 pr R) e w
def emb2 (x_0 : Sl) (i_3 : Int) : Env := [(0, Sl.v x_0), (3, vI i_3)]
def x0 : Env := []
def S2 (pr : Prims) (Q : Exit → Env → World → Prop) : (Env → World → Prop) → Env → World → Prop := fun k e w => wpC pr PP cfg (DD pr) (sub (codeOf Try.f126) [1, 0, 1, 0, 0]) (fun ex e w => normQ ex (fun e' w' => k (Env.restr e' (lookN cfg.loops (keyOf (sub (codeOf Try.f126) [1, 0, 1, 0, 0])))) w') Q e w) e w
def B2 (pr : Prims) (x_0 : Sl) (i_3 : Int) (w : World) (k : Env → World → Prop) (Q : Exit → Env → World → Prop) : Prop :=
  S2 pr Q k (emb2 x_0 i_3) w
def L2 (pr : Prims) (x_0 : Sl) (i_3 : Int) (w : World) (Q : Exit → Env → World → Prop) : Prop :=
  pr.loop (S2 pr Q) (emb2 x_0 i_3) w
def E (pr : Prims) (x_0 : Sl) (w : World) (R : Ending → World → Prop) : Prop :=
  wpC pr PP cfg (DD pr) (codeOf Try.f126) (retQ Try.f126.results.toList R) (argE 0 [Sl.v x_0]) w
theorem B2_eq (pr : Prims) (x_0 : Sl) (i_3 : Int) (w : World) (k : Env → World → Prop) (Q : Exit → Env → World → Prop) : B2 pr x_0 i_3 w k Q = (
  bif decide (i_3 > 0) then (
  pr.idxK 1 x_0 i_3 fun (a2 : Addr) =>
  pr.load1 (.int .i64) a2 w fun (ξ3 : Int) =>
  pr.idxK 1 x_0 (w64 (i_3 - 1)) fun (a4 : Addr) =>
  pr.load1 (.int .i64) a4 w fun (ξ5 : Int) =>
  pr.pcall1 .bool PP F.cmp_Less_int_ #[vI ξ3, vI ξ5] fun (ρ6 : Bool) =>
  pr.drewAll w fun ω7 =>
  bif ρ6 then (
  Q .ret [(2, .bool false)] ω7)
  else (
  k (emb2 x_0 (w64 (i_3 - 1))) ω7))
  else (
  Q (.exit 0) (x0) w)) := by kernel_rfl
theorem B2_s (x_0 : Sl) (i_3 : Int) (w : World) (k : Env → World → Prop) (Q : Exit → Env → World → Prop) : B2 std x_0 i_3 w k Q = (
  bif decide (i_3 > 0) then (
  idxK 1 x_0 i_3 fun (a2 : Addr) =>
  load1 (.int .i64) a2 w fun (ξ3 : Int) =>
  idxK 1 x_0 (w64 (i_3 - 1)) fun (a4 : Addr) =>
  load1 (.int .i64) a4 w fun (ξ5 : Int) =>
  pcall1 .bool PP F.cmp_Less_int_ #[vI ξ3, vI ξ5] fun (ρ6 : Bool) =>
  drewAll w fun ω7 =>
  bif ρ6 then (
  Q .ret [(2, .bool false)] ω7)
  else (
  k (emb2 x_0 (w64 (i_3 - 1))) ω7))
  else (
  Q (.exit 0) (x0) w)) := B2_eq std x_0 i_3 w k Q
theorem L2_rule (x_0 : Sl) (i_3 : Int) (w : World) (Q : Exit → Env → World → Prop) (I : Int → World → Prop) (μ : Int → World → Nat) (h0 : I i_3 w)
    (h : ∀ (i_3 : Int) (w' : World), I i_3 w' → B2 std x_0 i_3 w' (fun e2 w2 => ∃ i_3_n, e2 = emb2 x_0 i_3_n ∧ I i_3_n w2 ∧ μ i_3_n w2 < μ i_3 w') Q) :
    L2 std x_0 i_3 w Q := by
  unfold L2
  refine LoopE.intro (σ := Int) (step := S2 std Q) (fun s => emb2 x_0 s) (fun s w => I s w) (fun s w => μ s w) i_3 rfl h0 ?_
  intro s w' hI
  have h1 := h s w' hI
  unfold B2 at h1
  exact h1
theorem A2_0_eq (pr : Prims) (w : World) (R : Ending → World → Prop) : (q1 pr R) (.exit 0) (x0) w = (
  R (.returned (.bool true)) w) := by kernel_rfl
theorem A2_0_s (w : World) (R : Ending → World → Prop) : (q1 std R) (.exit 0) (x0) w = (
  R (.returned (.bool true)) w) := A2_0_eq std w R
theorem R2_eq (pr : Prims) (v2 : Value) (w : World) (R : Ending → World → Prop) : (q1 pr R) .ret [(2, v2)] w = (
  R (.returned (v2)) w) := by kernel_rfl
theorem R2_s (v2 : Value) (w : World) (R : Ending → World → Prop) : (q1 std R) .ret [(2, v2)] w = (
  R (.returned (v2)) w) := R2_eq std v2 w R
theorem E_eq (pr : Prims) (x_0 : Sl) (w : World) (R : Ending → World → Prop) : E pr x_0 w R = (
  L2 pr x_0 (w64 ((x_0.n : Int) - 1)) w (q1 pr R)) := by kernel_rfl
theorem E_s (x_0 : Sl) (w : World) (R : Ending → World → Prop) : E std x_0 w R = (
  L2 std x_0 (w64 ((x_0.n : Int) - 1)) w (q1 std R)) := E_eq std x_0 w R
theorem drawsOk : drawsOk PP cfg okD (codeOf Try.f126) = true := by kernel_rfl
theorem calls (x_0 : Sl) {w : World} {R : Ending → World → Prop} (h : E std x_0 w R) : Calls PP F.slices_IsSorted___int_int_ #[Sl.v x_0] w R :=
  calls_of noCount mixed drawOk Try.func126 rfl (c := cfg) (args := [Sl.v x_0]) rfl (Nat.le_of_ble_eq_true (by kernel_rfl)) drawsOk h
end slices_IsSorted___int_int_

namespace cmp_Less_int_
@[reducible] def cfg : Cfg := ⟨17, [], [], [], [4], [], [101, 107, 112, 15, 21, 124, 76, 137, 28, 115, 91, 81, 130], [138, 140, 82, 6, 86, 85, 132]⟩
def E (pr : Prims) (x_0 : Int) (y_1 : Int) (w : World) (R : Ending → World → Prop) : Prop :=
  wpC pr PP cfg (DD pr) (codeOf Try.f138) (retQ Try.f138.results.toList R) (argE 0 [vI x_0, vI y_1]) w
theorem E_eq (pr : Prims) (x_0 : Int) (y_1 : Int) (w : World) (R : Ending → World → Prop) : E pr x_0 y_1 w R = (
  pr.pcall1 .bool PP F.cmp_isNaN_int_ #[vI x_0] fun (ρ0 : Bool) =>
  bif ρ0 then (
  pr.pcall1 .bool PP F.cmp_isNaN_int_ #[vI y_1] fun (ρ1 : Bool) =>
  bif !ρ1 then (
  R (.returned (.bool true)) w)
  else (
  R (.returned (.bool (decide (x_0 < y_1)))) w))
  else (
  R (.returned (.bool (decide (x_0 < y_1)))) w)) := by kernel_rfl
theorem E_s (x_0 : Int) (y_1 : Int) (w : World) (R : Ending → World → Prop) : E std x_0 y_1 w R = (
  pcall1 .bool PP F.cmp_isNaN_int_ #[vI x_0] fun (ρ0 : Bool) =>
  bif ρ0 then (
  pcall1 .bool PP F.cmp_isNaN_int_ #[vI y_1] fun (ρ1 : Bool) =>
  bif !ρ1 then (
  R (.returned (.bool true)) w)
  else (
  R (.returned (.bool (decide (x_0 < y_1)))) w))
  else (
  R (.returned (.bool (decide (x_0 < y_1)))) w)) := E_eq std x_0 y_1 w R
theorem drawsOk : drawsOk PP cfg okD (codeOf Try.f138) = true := by kernel_rfl
theorem calls (x_0 : Int) (y_1 : Int) {w : World} {R : Ending → World → Prop} (h : E std x_0 y_1 w R) : Calls PP F.cmp_Less_int_ #[vI x_0, vI y_1] w R :=
  calls_of noCount mixed drawOk Try.func138 rfl (c := cfg) (args := [vI x_0, vI y_1]) rfl (Nat.le_of_ble_eq_true (by kernel_rfl)) drawsOk h
end cmp_Less_int_

namespace impl_isRising
@[reducible] def cfg : Cfg := ⟨5, [], [], [], [2], [], [101, 107, 112, 15, 21, 124, 76, 137, 28, 115, 91, 81, 130], [138, 140, 82, 6, 86, 85, 132]⟩
def E (pr : Prims) (p_0 : Sl) (w : World) (R : Ending → World → Prop) : Prop :=
  wpC pr PP cfg (DD pr) (codeOf Try.f77) (retQ Try.f77.results.toList R) (argE 0 [Sl.v p_0]) w
theorem E_eq (pr : Prims) (p_0 : Sl) (w : World) (R : Ending → World → Prop) : E pr p_0 w R = (
  pr.call1 .bool PP F.slices_IsSorted___int_int_ #[Sl.v p_0] w fun (ρ0 : Bool) ω1 =>
  R (.returned (.bool ρ0)) ω1) := by kernel_rfl
theorem E_s (p_0 : Sl) (w : World) (R : Ending → World → Prop) : E std p_0 w R = (
  call1 .bool PP F.slices_IsSorted___int_int_ #[Sl.v p_0] w fun (ρ0 : Bool) ω1 =>
  R (.returned (.bool ρ0)) ω1) := E_eq std p_0 w R
theorem drawsOk : drawsOk PP cfg okD (codeOf Try.f77) = true := by kernel_rfl
theorem calls (p_0 : Sl) {w : World} {R : Ending → World → Prop} (h : E std p_0 w R) : Calls PP F.impl_isRising #[Sl.v p_0] w R :=
  calls_of noCount mixed drawOk Try.func77 rfl (c := cfg) (args := [Sl.v p_0]) rfl (Nat.le_of_ble_eq_true (by kernel_rfl)) drawsOk h
end impl_isRising

namespace spec_l13Straight
@[reducible] def cfg : Cfg := ⟨8, [], [], [], [2], [], [101, 107, 112, 15, 21, 124, 76, 137, 28, 115, 91, 81, 130], [138, 140, 82, 6, 86, 85, 132]⟩
def E (pr : Prims) (p_0 : Sl) (w : World) (R : Ending → World → Prop) : Prop :=
  wpC pr PP cfg (DD pr) (codeOf Try.f78) (retQ Try.f78.results.toList R) (argE 0 [Sl.v p_0]) w
theorem E_eq (pr : Prims) (p_0 : Sl) (w : World) (R : Ending → World → Prop) : E pr p_0 w R = (
  pr.call1 .sl PP F.spec_IdentityPerm #[vI (p_0.n : Int)] w fun (ρ0 : Sl) ω1 =>
  pr.call1 .bool PP F.spec_l2Same #[Sl.v p_0, Sl.v ρ0] ω1 fun (ρ2 : Bool) ω3 =>
  R (.returned (.bool ρ2)) ω3) := by kernel_rfl
theorem E_s (p_0 : Sl) (w : World) (R : Ending → World → Prop) : E std p_0 w R = (
  call1 .sl PP F.spec_IdentityPerm #[vI (p_0.n : Int)] w fun (ρ0 : Sl) ω1 =>
  call1 .bool PP F.spec_l2Same #[Sl.v p_0, Sl.v ρ0] ω1 fun (ρ2 : Bool) ω3 =>
  R (.returned (.bool ρ2)) ω3) := E_eq std p_0 w R
theorem drawsOk : drawsOk PP cfg okD (codeOf Try.f78) = true := by kernel_rfl
theorem calls (p_0 : Sl) {w : World} {R : Ending → World → Prop} (h : E std p_0 w R) : Calls PP F.spec_l13Straight #[Sl.v p_0] w R :=
  calls_of noCount mixed drawOk Try.func78 rfl (c := cfg) (args := [Sl.v p_0]) rfl (Nat.le_of_ble_eq_true (by kernel_rfl)) drawsOk h
end spec_l13Straight

end Go.Proofs.Ytdchjhhpbdekeaa

/- What each function does, step by step, written by a program (Gen.lean); each equation is checked by the kernel. -/
namespace Go.Proofs.Ytdchjhhpbdekeaa
open Go
set_option linter.unusedVariables false
set_option maxRecDepth 100000
namespace spec_l2Same
@[reducible] def cfg : Cfg := ⟨26, [(4, [0, 1, 5])], [(1, [0, 1, 5]), (0, [])], [], [4], [6], [101, 107, 112, 15, 21, 124, 76, 137, 28, 115, 91, 81, 130], [138, 140, 82, 6, 86, 85, 132]⟩
def q0 (pr : Prims) (R : Ending → World → Prop) : Exit → Env → World → Prop := fun ex e w => normQ ex (fun e w => contE pr cfg (sub (codeOf Try.f81) [1, 1, 1]) (fun e w => wpC pr PP cfg (DD pr) (sub (codeOf Try.f81) [1, 1, 1]) (retQ Try.f81.results.toList R) e w) e w) (retQ Try.f81.results.toList R) e w
def q1 (pr : Prims) (R : Ending → World → Prop) : Exit → Env → World → Prop := fun ex e w => blockQ ex 0 (q0 pr R) e w
def emb4 (a_0 : Sl) (b_1 : Sl) (k_5 : Int) : Env := [(0, Sl.v a_0), (1, Sl.v b_1), (5, vI k_5)]
def x0 : Env := []
def S4 (pr : Prims) (Q : Exit → Env → World → Prop) : (Env → World → Prop) → Env → World → Prop := fun k e w => wpC pr PP cfg (DD pr) (sub (codeOf Try.f81) [1, 1, 0, 1, 0, 0]) (fun ex e w => normQ ex (fun e' w' => k (Env.restr e' (lookN cfg.loops (keyOf (sub (codeOf Try.f81) [1, 1, 0, 1, 0, 0])))) w') Q e w) e w
def B4 (pr : Prims) (a_0 : Sl) (b_1 : Sl) (k_5 : Int) (w : World) (k : Env → World → Prop) (Q : Exit → Env → World → Prop) : Prop :=
  S4 pr Q k (emb4 a_0 b_1 k_5) w
def L4 (pr : Prims) (a_0 : Sl) (b_1 : Sl) (k_5 : Int) (w : World) (Q : Exit → Env → World → Prop) : Prop :=
  pr.loop (S4 pr Q) (emb4 a_0 b_1 k_5) w
def E (pr : Prims) (a_0 : Sl) (b_1 : Sl) (w : World) (R : Ending → World → Prop) : Prop :=
  wpC pr PP cfg (DD pr) (codeOf Try.f81) (retQ Try.f81.results.toList R) (argE 0 [Sl.v a_0, Sl.v b_1]) w
theorem B4_eq (pr : Prims) (a_0 : Sl) (b_1 : Sl) (k_5 : Int) (w : World) (k : Env → World → Prop) (Q : Exit → Env → World → Prop) : B4 pr a_0 b_1 k_5 w k Q = (
  bif decide (k_5 < (a_0.n : Int)) then (
  pr.idxK 1 a_0 k_5 fun (a2 : Addr) =>
  pr.load1 (.int .i64) a2 w fun (ξ3 : Int) =>
  pr.idxK 1 b_1 k_5 fun (a4 : Addr) =>
  pr.load1 (.int .i64) a4 w fun (ξ5 : Int) =>
  pr.drewAll w fun ω6 =>
  bif ξ3 != ξ5 then (
  Q .ret [(4, .bool false)] ω6)
  else (
  k (emb4 a_0 b_1 (w64 (k_5 + 1))) ω6))
  else (
  Q (.exit 0) (x0) w)) := by kernel_rfl
theorem B4_s (a_0 : Sl) (b_1 : Sl) (k_5 : Int) (w : World) (k : Env → World → Prop) (Q : Exit → Env → World → Prop) : B4 std a_0 b_1 k_5 w k Q = (
  bif decide (k_5 < (a_0.n : Int)) then (
  idxK 1 a_0 k_5 fun (a2 : Addr) =>
  load1 (.int .i64) a2 w fun (ξ3 : Int) =>
  idxK 1 b_1 k_5 fun (a4 : Addr) =>
  load1 (.int .i64) a4 w fun (ξ5 : Int) =>
  drewAll w fun ω6 =>
  bif ξ3 != ξ5 then (
  Q .ret [(4, .bool false)] ω6)
  else (
  k (emb4 a_0 b_1 (w64 (k_5 + 1))) ω6))
  else (
  Q (.exit 0) (x0) w)) := B4_eq std a_0 b_1 k_5 w k Q
theorem L4_rule (a_0 : Sl) (b_1 : Sl) (k_5 : Int) (w : World) (Q : Exit → Env → World → Prop) (I : Int → World → Prop) (μ : Int → World → Nat) (h0 : I k_5 w)
    (h : ∀ (k_5 : Int) (w' : World), I k_5 w' → B4 std a_0 b_1 k_5 w' (fun e2 w2 => ∃ k_5_n, e2 = emb4 a_0 b_1 k_5_n ∧ I k_5_n w2 ∧ μ k_5_n w2 < μ k_5 w') Q) :
    L4 std a_0 b_1 k_5 w Q := by
  unfold L4
  refine LoopE.intro (σ := Int) (step := S4 std Q) (fun s => emb4 a_0 b_1 s) (fun s w => I s w) (fun s w => μ s w) k_5 rfl h0 ?_
  intro s w' hI
  have h1 := h s w' hI
  unfold B4 at h1
  exact h1
theorem A4_0_eq (pr : Prims) (w : World) (R : Ending → World → Prop) : (q1 pr R) (.exit 0) (x0) w = (
  R (.returned (.bool true)) w) := by kernel_rfl
theorem A4_0_s (w : World) (R : Ending → World → Prop) : (q1 std R) (.exit 0) (x0) w = (
  R (.returned (.bool true)) w) := A4_0_eq std w R
theorem R4_eq (pr : Prims) (v4 : Value) (w : World) (R : Ending → World → Prop) : (q1 pr R) .ret [(4, v4)] w = (
  R (.returned (v4)) w) := by kernel_rfl
theorem R4_s (v4 : Value) (w : World) (R : Ending → World → Prop) : (q1 std R) .ret [(4, v4)] w = (
  R (.returned (v4)) w) := R4_eq std v4 w R
theorem E_eq (pr : Prims) (a_0 : Sl) (b_1 : Sl) (w : World) (R : Ending → World → Prop) : E pr a_0 b_1 w R = (
  bif (a_0.n : Int) != (b_1.n : Int) then (
  R (.returned (.bool false)) w)
  else (
  L4 pr a_0 b_1 0 w (q1 pr R))) := by kernel_rfl
theorem E_s (a_0 : Sl) (b_1 : Sl) (w : World) (R : Ending → World → Prop) : E std a_0 b_1 w R = (
  bif (a_0.n : Int) != (b_1.n : Int) then (
  R (.returned (.bool false)) w)
  else (
  L4 std a_0 b_1 0 w (q1 std R))) := E_eq std a_0 b_1 w R
theorem drawsOk : drawsOk PP cfg okD (codeOf Try.f81) = true := by kernel_rfl
theorem calls (a_0 : Sl) (b_1 : Sl) {w : World} {R : Ending → World → Prop} (h : E std a_0 b_1 w R) : Calls PP F.spec_l2Same #[Sl.v a_0, Sl.v b_1] w R :=
  calls_of noCount mixed drawOk Try.func81 rfl (c := cfg) (args := [Sl.v a_0, Sl.v b_1]) rfl (Nat.le_of_ble_eq_true (by kernel_rfl)) drawsOk h
end spec_l2Same

end Go.Proofs.Ytdchjhhpbdekeaa

/- The model's equality of rows. -/
namespace Go.Proofs.Ytdchjhhpbdekeaa
open Go Go.RowKit
set_option maxRecDepth 100000

theorem c_l2Same {w : World} {a b : Sl} {L M : List Int} (ha : RowI w a L) (hb : RowI w b M) (hL : L.length < 2^39) : Quiet F.spec_l2Same #[a.v, b.v] w (.bool (decide (L = M))) := by
  intro w1 hd
  have han : a.n = L.length := by have := ha.n; simpa using this
  have hbn : b.n = M.length := by have := hb.n; simpa using this
  refine spec_l2Same.calls a b ?_
  rw [spec_l2Same.E_s]
  refine bif_intro (fun h => ?_) (fun h => ?_)
  · have : L.length ≠ M.length := by simp at h; omega
    have : L ≠ M := fun e => this (by rw [e])
    exact ⟨by simp [this], Drew.refl _⟩
  have hlen : L.length = M.length := by simp at h; omega
  refine spec_l2Same.L4_rule _ _ _ _ _ (I := fun i w' => 0 ≤ i ∧ i ≤ L.length ∧ (∀ k, k < i.toNat → L[k]? = M[k]?) ∧ Drew w1 w') (μ := fun i _ => (L.length - i).toNat)
    ⟨by omega, by omega, fun k hk => by simp at hk, Drew.refl _⟩ ?_
  rintro i w' ⟨h0, hi, hall, hd2⟩
  have hh : w'.heap = w.heap := (hd.trans hd2).heap'
  rw [spec_l2Same.B4_s]
  refine bif_dec (fun h3 => ?_) (fun h3 => ?_)
  · have hlt : i.toNat < L.length := by omega
    have hlt2 : i.toNat < M.length := by omega
    refine RowI.get (ha.heap hh) h0 (by omega) ?_
    refine RowI.get (hb.heap hh) h0 (by omega) ?_
    refine drew_intro fun w3 hd3 => ?_
    rw [getD_eq hlt, getD_eq hlt2]
    refine bif_intro (fun h4 => ?_) (fun h4 => ?_)
    · have : L ≠ M := fun e => by subst e; simp at h4
      rw [spec_l2Same.R4_s]
      exact ⟨by simp [this], hd2.trans hd3⟩
    · have h4 : L[i.toNat] = M[i.toNat] := by simpa using h4
      refine ⟨i + 1, by rw [w64_succ h0 (by omega)], ⟨by omega, by omega, fun k hk => ?_, hd2.trans hd3⟩, by omega⟩
      by_cases hk2 : k < i.toNat
      · exact hall k hk2
      · have : k = i.toNat := by omega
        subst this
        rw [List.getElem?_eq_getElem hlt, List.getElem?_eq_getElem hlt2, h4]
  · rw [spec_l2Same.A4_0_s]
    have : L = M := by
      apply List.ext_getElem?
      intro k
      by_cases hk : k < L.length
      · exact hall k (by omega)
      · rw [List.getElem?_eq_none (by omega), List.getElem?_eq_none (by omega)]
    exact ⟨by simp [this], hd2⟩
end Go.Proofs.Ytdchjhhpbdekeaa

/- Is a row in ascending order: both texts; equality of rows; the identity. -/
namespace Go.Proofs.Ytdchjhhpbdekeaa
open Go Go.RowKit
set_option maxRecDepth 100000

theorem c_isNaN (n : Int) : Pure F.cmp_isNaN_int_ #[vI n] (.bool false) := by
  intro w
  refine cmp_isNaN_int_.calls n ?_
  rw [cmp_isNaN_int_.E_s]
  exact ⟨by simp, rfl⟩
theorem c_Less (a b : Int) : Pure F.cmp_Less_int_ #[vI a, vI b] (.bool (decide (a < b))) := by
  intro w
  refine cmp_Less_int_.calls a b ?_
  rw [cmp_Less_int_.E_s]
  refine Pure.pcall1 (s := .bool) (c_isNaN a) ?_
  exact bif_f rfl ⟨rfl, rfl⟩
open Classical in
theorem c_IsSorted {w : World} {a : Sl} {L : List Int} (ha : RowI w a L) (hL : L.length < 2^38) : Quiet F.slices_IsSorted___int_int_ #[a.v] w (.bool (decide (Rising L))) := by
  intro w1 hd
  have han : a.n = L.length := by have := ha.n; simpa using this
  refine slices_IsSorted___int_int_.calls a ?_
  rw [slices_IsSorted___int_int_.E_s, han, w64_id (by omega) (by omega)]
  refine slices_IsSorted___int_int_.L2_rule _ _ _ _ (I := fun i w' => Drew w1 w' ∧ i < L.length ∧ -1 ≤ i ∧ ∀ j : Nat, i ≤ j → j + 1 < L.length → L.getD j 0 ≤ L.getD (j + 1) 0) (μ := fun i _ => (i + 1).toNat)
    ⟨Drew.refl _, by omega, by omega, fun j h1 h2 => by omega⟩ ?_
  rintro i w' ⟨hd2, hi, h0, hall⟩
  rw [slices_IsSorted___int_int_.B2_s]
  refine bif_dec (fun h3 => ?_) (fun h3 => ?_)
  · refine RowI.get (ha.heap (hd.trans hd2).heap') (by omega) (by omega) ?_
    rw [w64_id (n := i - 1) (by omega) (by omega)]
    refine RowI.get (ha.heap (hd.trans hd2).heap') (by omega) (by omega) ?_
    refine Pure.pcall1 (s := .bool) (c_Less _ _) ?_
    refine drew_intro fun w2 hd3 => ?_
    have e1 : i.toNat = (i - 1).toNat + 1 := by omega
    refine bif_dec (fun h4 => ?_) (fun h4 => ?_)
    · rw [slices_IsSorted___int_int_.R2_s]
      have : ¬ Rising L := fun h => by
        have := h (i - 1).toNat (by omega)
        rw [e1] at h4; omega
      exact ⟨by simp [this], hd2.trans hd3⟩
    · refine ⟨i - 1, rfl, ⟨hd2.trans hd3, by omega, by omega, fun j h1 h2 => ?_⟩, by omega⟩
      by_cases h5 : i ≤ j
      · exact hall j h5 h2
      · have : j = (i - 1).toNat := by omega
        rw [this, ← e1]; omega
  · rw [slices_IsSorted___int_int_.A2_0_s]
    have : Rising L := fun j h => hall j (by omega) h
    exact ⟨by simp [this], hd2⟩
open Classical in
theorem c_isRising {w : World} {a : Sl} {L : List Int} (ha : RowI w a L) (hL : L.length < 2^38) : Quiet F.impl_isRising #[a.v] w (.bool (decide (Rising L))) := by
  intro w1 hd
  refine impl_isRising.calls a ?_
  rw [impl_isRising.E_s]
  refine (c_IsSorted ha hL w1 hd).mono ?_
  rintro e w2 ⟨rfl, hd2⟩
  exact ⟨_, rfl, rfl, hd2⟩

theorem c_IdentityPerm {w : World} (n : Nat) (hn : n ≤ 8) :
    Calls PP F.spec_IdentityPerm #[vI n] w fun e w' => ∃ s : Sl, e = .returned s.v ∧ OwnI w' w.heap.size s (idn n) ∧ Below w.heap.size w w' := by
  refine spec_IdentityPerm.calls n ?_
  rw [spec_IdentityPerm.E_s]
  refine lit0 oneInt (B := w.heap.size) (Nat.le_refl _) ?_
  intro t0 w1 hown hg _
  refine spec_IdentityPerm.L3_rule _ _ _ _ _ (I := fun t k w' => 1 ≤ k ∧ k ≤ n + 1 ∧ OwnI w' w.heap.size t (idn (k - 1).toNat) ∧ Below w.heap.size w w') (μ := fun _ k _ => (n + 1 - k).toNat)
    ⟨by omega, by omega, hown, below_of_grow hg⟩ ?_
  rintro t k w' ⟨h1, hk, ht, hb⟩
  rw [spec_IdentityPerm.B3_s]
  refine bif_dec (fun h3 => ?_) (fun h3 => ?_)
  · refine bif_dec (fun h4 => ?_) (fun h4 => by omega)
    refine append_int ht hb.size (by rw [idn_length]; omega) ?_
    intro t' w2 ht2 hg2 _
    refine ⟨t', k + 1, by rw [w64_succ (by omega) (by omega)], ⟨by omega, by omega, ?_, hb.grown hg2 hb.size (fun g hg => (ht.lt g hg).1)⟩, by omega⟩
    rw [show (k + 1 - 1).toNat = (k - 1).toNat + 1 by omega, idn_succ, show (((k - 1).toNat : Nat) : Int) + 1 = k by omega]
    exact ht2
  · rw [spec_IdentityPerm.A3_0_s]
    rw [show (k - 1).toNat = n by omega] at ht
    exact ⟨t, rfl, ht, hb⟩
open Classical in
theorem c_l13Straight {w : World} {a : Sl} {L : List Int} (ha : RowI w a L) (hL : L.length ≤ 8) :
    Calls PP F.spec_l13Straight #[a.v] w fun e w' => e = .returned (.bool (decide (L = idn L.length))) ∧ Below w.heap.size w w' := by
  have han : a.n = L.length := by have := ha.n; simpa using this
  refine spec_l13Straight.calls a ?_
  rw [spec_l13Straight.E_s, han]
  refine (c_IdentityPerm L.length hL).mono ?_
  rintro e w1 ⟨s, rfl, hs, hb⟩
  refine ⟨s, rfl, ?_⟩
  refine Quiet.call1 (s := .bool) (c_l2Same (ha.grow hb) hs.row (by omega)) ?_
  intro w2 hd
  exact ⟨by congr, hb.trans (hd.below _)⟩
end Go.Proofs.Ytdchjhhpbdekeaa

/- StackPass, IsStackSorted, StackTimes: both texts, and the laws. -/
namespace Go.Proofs.Ytdchjhhpbdekeaa
open Go Go.RowKit
set_option maxRecDepth 100000

open Classical in
noncomputable def StackPassV (L : List Int) : List Int := if IsP L then passV L else []
theorem StackPassV_len (L : List Int) : (StackPassV L).length < 2^38 := by
  unfold StackPassV
  split
  · rename_i h; rw [passV_length]; have := h.1; omega
  · simp
theorem c_implStackPass {w : World} {a : Sl} {L : List Int} (ha : RowI w a L) (hL : L.length < 2^38) :
    Calls PP F.impl_StackPass #[a.v] w fun e w' => ∃ s : Sl, e = .returned s.v ∧ OwnI w' w.heap.size s (StackPassV L) ∧ Below w.heap.size w w' := by
  refine impl_StackPass.calls a ?_
  rw [impl_StackPass.E_s]
  refine (c_implIsPerm ha hL).mono ?_
  rintro e w1 ⟨rfl, hb⟩
  refine ⟨_, rfl, ?_⟩
  refine bif_intro (fun h => ?_) (fun h => ?_)
  · have h : ¬ IsP L := by simpa using h
    exact ⟨Sl.nil, rfl, by rw [StackPassV, if_neg h]; exact Own.nil _ _ _, hb⟩
  · have h : IsP L := by simpa using h
    refine (c_stackPass (ha.grow hb) hL).mono ?_
    rintro e w2 ⟨s, rfl, hs, hb2⟩
    refine ⟨s, rfl, s, rfl, ?_, hb.trans (hb2.mono hb.size)⟩
    rw [StackPassV, if_pos h]; exact hs.mono hb.size
theorem c_specStackPass {w : World} {a : Sl} {L : List Int} (ha : RowI w a L) (hL : L.length < 2^38) :
    Calls PP F.spec_StackPass #[a.v] w fun e w' => ∃ s : Sl, e = .returned s.v ∧ RowI w' s (StackPassV L) ∧ Below w.heap.size w w' := by
  refine spec_StackPass.calls a ?_
  rw [spec_StackPass.E_s]
  refine Quiet.call1 (s := .bool) (c_specIsPerm ha hL) ?_
  intro w1 hd
  have hb : Below w.heap.size w w1 := hd.below _
  refine bif_intro (fun h => ?_) (fun h => ?_)
  · have h : ¬ IsP L := by simpa using h
    refine lit0 oneInt (B := w.heap.size) hb.size ?_
    intro s w2 hs hg _
    exact ⟨s, rfl, by rw [StackPassV, if_neg h]; exact hs.row, hb.grown hg hb.size (by simp)⟩
  · have h : IsP L := by simpa using h
    refine (c_l21Pass (ha.grow hb) hL).mono ?_
    rintro e w2 ⟨s, rfl, hs, hb2⟩
    refine ⟨s, rfl, s, rfl, ?_, hb.trans (hb2.mono hb.size)⟩
    rw [StackPassV, if_pos h]; exact hs.row

open Classical in
noncomputable def IsStackSortedV (L : List Int) : Bool := decide (IsP L) && decide (Rising (passV L))
theorem isP_pass {L : List Int} (h : IsP L) : IsP (passV L) := isP_of_perm (passV_perm L) h
theorem c_implIsStackSorted {w : World} {a : Sl} {L : List Int} (ha : RowI w a L) (hL : L.length < 2^38) :
    Calls PP F.impl_IsStackSorted #[a.v] w fun e w' => e = .returned (.bool (IsStackSortedV L)) ∧ Below w.heap.size w w' := by
  refine impl_IsStackSorted.calls a ?_
  rw [impl_IsStackSorted.E_s]
  refine (c_implIsPerm ha hL).mono ?_
  rintro e w1 ⟨rfl, hb⟩
  refine ⟨_, rfl, ?_⟩
  refine bif_intro (fun h => ?_) (fun h => ?_)
  · have h : IsP L := by simpa using h
    refine (c_stackPass (ha.grow hb) hL).mono ?_
    rintro e w2 ⟨s, rfl, hs, hb2⟩
    refine ⟨s, rfl, ?_⟩
    have hb12 := hb.trans (hb2.mono hb.size)
    refine Quiet.call1 (s := .bool) (c_isRising hs.row (by rw [passV_length]; omega)) ?_
    intro w3 hd
    exact ⟨by simp [IsStackSortedV, h], hb12.trans (hd.below _)⟩
  · have h : ¬ IsP L := by simpa using h
    exact ⟨by simp [IsStackSortedV, h], hb⟩
theorem c_specIsStackSorted {w : World} {a : Sl} {L : List Int} (ha : RowI w a L) (hL : L.length < 2^38) :
    Calls PP F.spec_IsStackSorted #[a.v] w fun e w' => e = .returned (.bool (IsStackSortedV L)) ∧ Below w.heap.size w w' := by
  refine spec_IsStackSorted.calls a ?_
  rw [spec_IsStackSorted.E_s]
  refine Quiet.call1 (s := .bool) (c_specIsPerm ha hL) ?_
  intro w1 hd
  have hb : Below w.heap.size w w1 := hd.below _
  refine bif_intro (fun h => ?_) (fun h => ?_)
  · have h : IsP L := by simpa using h
    refine (c_l21Pass (ha.grow hb) hL).mono ?_
    rintro e w2 ⟨s, rfl, hs, hb2⟩
    refine ⟨s, rfl, ?_⟩
    have hb12 := hb.trans (hb2.mono hb.size)
    refine (c_l13Straight hs.row (by rw [passV_length]; exact h.1)).mono ?_
    rintro e w3 ⟨rfl, hb3⟩
    exact ⟨_, rfl, by simp [IsStackSortedV, h, (isP_pass h).rising], hb12.trans (hb3.mono hb12.size)⟩
  · have h : ¬ IsP L := by simpa using h
    exact ⟨by simp [IsStackSortedV, h], hb⟩

open Classical in
noncomputable def StackTimesV (L : List Int) : Int := if IsP L then (tmV L : Int) else -1
theorem isP_it {L : List Int} (h : IsP L) (k : Nat) : IsP (itW k L) := isP_of_perm (itW_perm L k) h
theorem bodied_stackPass : bodied PP F.impl_stackPass = true := by kernel_rfl
theorem c_timesOf {w : World} {a : Sl} {L : List Int} (ha : RowI w a L) (h : IsP L) :
    Calls PP F.impl_timesOf #[a.v, .func (.func F.impl_stackPass) #[] #[]] w fun e w' => e = .returned (vI (tmV L)) ∧ Below w.heap.size w w' := by
  refine impl_timesOf.calls a _ ?_
  rw [impl_timesOf.E_s]
  refine impl_timesOf.L2_rule _ _ _ _ _ (I := fun p many w' => ∃ k : Nat, many = k ∧ RowI w' p (itW k L) ∧ Below w.heap.size w w' ∧ ∀ j, j < k → ¬ Rising (itW j L)) (μ := fun _ many _ => (9 - many).toNat)
    ⟨0, rfl, ha, Below.refl _ _, fun j hj => by omega⟩ ?_
  rintro p many w' ⟨k, rfl, hp, hb, hall⟩
  have hk := it_not h hall
  have h8 := h.1
  rw [impl_timesOf.B2_s]
  refine Quiet.call1 (s := .bool) (c_isRising hp (by rw [(itW_perm L k).length_eq]; omega)) ?_
  intro w2 hd
  have hb2 := hb.trans (hd.below _)
  refine bif_intro (fun h4 => ?_) (fun h4 => ?_)
  · have h4 : ¬ Rising (itW k L) := by simpa using h4
    refine ⟨F.impl_stackPass, #[], #[], rfl, bodied_stackPass, ?_⟩
    refine (c_stackPass (hp.heap hd.heap') (by rw [(itW_perm L k).length_eq]; omega)).mono ?_
    rintro e w3 ⟨s, rfl, hs, hb3⟩
    refine ⟨s, rfl, s, ((k + 1 : Nat) : Int), by rw [w64_succ (by omega) (by omega)]; rfl, ⟨k + 1, rfl, hs.row, hb2.trans (hb3.mono hb2.size), fun j hj => ?_⟩, by omega⟩
    by_cases e : j = k
    · rw [e]; exact h4
    · exact hall j (by omega)
  · have h4 : Rising (itW k L) := by simpa using h4
    rw [impl_timesOf.A2_0_s]
    exact ⟨by rw [Tm.eq ⟨h4, hall⟩], hb2⟩
theorem c_implStackTimes {w : World} {a : Sl} {L : List Int} (ha : RowI w a L) (hL : L.length < 2^38) :
    Calls PP F.impl_StackTimes #[a.v] w fun e w' => e = .returned (vI (StackTimesV L)) ∧ Below w.heap.size w w' := by
  refine impl_StackTimes.calls a ?_
  rw [impl_StackTimes.E_s]
  refine (c_implIsPerm ha hL).mono ?_
  rintro e w1 ⟨rfl, hb⟩
  refine ⟨_, rfl, ?_⟩
  refine bif_intro (fun h => ?_) (fun h => ?_)
  · have h : ¬ IsP L := by simpa using h
    exact ⟨by rw [StackTimesV, if_neg h], hb⟩
  · have h : IsP L := by simpa using h
    refine (c_timesOf (ha.grow hb) h).mono ?_
    rintro e w2 ⟨rfl, hb2⟩
    exact ⟨_, rfl, by rw [StackTimesV, if_pos h], hb.trans (hb2.mono hb.size)⟩
theorem c_specStackTimes {w : World} {a : Sl} {L : List Int} (ha : RowI w a L) (hL : L.length < 2^38) :
    Calls PP F.spec_StackTimes #[a.v] w fun e w' => e = .returned (vI (StackTimesV L)) ∧ Below w.heap.size w w' := by
  refine spec_StackTimes.calls a ?_
  rw [spec_StackTimes.E_s]
  refine Quiet.call1 (s := .bool) (c_specIsPerm ha hL) ?_
  intro w1 hd
  have hb1 : Below w.heap.size w w1 := hd.below _
  refine bif_intro (fun h => ?_) (fun h => ?_)
  · have h : ¬ IsP L := by simpa using h
    exact ⟨by rw [StackTimesV, if_neg h], hb1⟩
  · have h : IsP L := by simpa using h
    have h8 := h.1
    refine spec_StackTimes.L4_rule _ _ _ _ (I := fun p many w' => ∃ k : Nat, many = k ∧ RowI w' p (itW k L) ∧ Below w.heap.size w w' ∧ ∀ j, j < k → ¬ Rising (itW j L)) (μ := fun _ many _ => (9 - many).toNat)
      ⟨0, rfl, ha.grow hb1, hb1, fun j hj => by omega⟩ ?_
    rintro p many w' ⟨k, rfl, hp, hb, hall⟩
    have hk := it_not h hall
    rw [spec_StackTimes.B4_s]
    refine (c_l13Straight hp (by rw [(itW_perm L k).length_eq]; exact h8)).mono ?_
    rintro e w2 ⟨rfl, hb2⟩
    refine ⟨_, rfl, ?_⟩
    have hb12 := hb.trans (hb2.mono hb.size)
    have hri := (isP_it h k).rising
    refine bif_intro (fun h4 => ?_) (fun h4 => ?_)
    · have h4 : ¬ Rising (itW k L) := by rw [hri]; simpa using h4
      refine (c_l21Pass (hp.grow hb2) (by rw [(itW_perm L k).length_eq]; omega)).mono ?_
      rintro e w3 ⟨s, rfl, hs, hb3⟩
      refine ⟨s, rfl, s, ((k + 1 : Nat) : Int), by rw [w64_succ (by omega) (by omega)]; rfl, ⟨k + 1, rfl, hs.row, hb12.trans (hb3.mono hb12.size), fun j hj => ?_⟩, by omega⟩
      by_cases e : j = k
      · rw [e]; exact h4
      · exact hall j (by omega)
    · have h4 : Rising (itW k L) := by rw [hri]; simpa using h4
      rw [spec_StackTimes.A4_0_s]
      exact ⟨by rw [StackTimesV, if_pos h, Tm.eq ⟨h4, hall⟩], hb12⟩
end Go.Proofs.Ytdchjhhpbdekeaa

/- What each function does, step by step, written by a program (Gen.lean); each equation is checked by the kernel. -/
namespace Go.Proofs.Ytdchjhhpbdekeaa
open Go
set_option linter.unusedVariables false
set_option maxRecDepth 100000
namespace impl_perms
@[reducible] def cfg : Cfg := ⟨41, [(9, [0, 4, 6, 7, 10, 11, 14, 15, 16]), (6, [0, 4, 10, 11, 14, 15, 16]), (3, [0, 3, 10, 11])], [(5, [0, 4, 6, 7, 10, 11, 14, 15, 16]), (4, [0, 4, 10, 11, 14, 15, 16]), (3, [0, 4, 10, 11, 14, 15, 16]), (2, [0, 4, 10, 11]), (1, [0, 3, 10, 11]), (0, [3])], [], [2], [], [101, 107, 112, 15, 21, 124, 76, 137, 28, 115, 91, 81, 130], [138, 140, 82, 6, 86, 85, 132]⟩
def q4 (pr : Prims) (R : Ending → World → Prop) : Exit → Env → World → Prop := fun ex e w => normQ ex (fun e w => contE pr cfg (sub (codeOf Try.f75) [1, 1, 1]) (fun e w => wpC pr PP cfg (DD pr) (sub (codeOf Try.f75) [1, 1, 1]) (retQ Try.f75.results.toList R) e w) e w) (retQ Try.f75.results.toList R) e w
def q5 (pr : Prims) (R : Ending → World → Prop) : Exit → Env → World → Prop := fun ex e w => blockQ ex 0 (q4 pr R) e w
def q6 (pr : Prims) (k : Env → World → Prop) (Q : Exit → Env → World → Prop) : Exit → Env → World → Prop := fun ex e w => normQ ex (fun e w => contE pr cfg (sub (codeOf Try.f75) [1, 1, 0, 1, 0, 0, 1, 1, 1]) (fun e w => wpC pr PP cfg (DD pr) (sub (codeOf Try.f75) [1, 1, 0, 1, 0, 0, 1, 1, 1]) (fun ex e w => normQ ex (fun e' w' => k (Env.restr e' (lookN cfg.loops (keyOf (sub (codeOf Try.f75) [1, 1, 0, 1, 0, 0])))) w') Q e w) e w) e w) (fun ex e w => normQ ex (fun e' w' => k (Env.restr e' (lookN cfg.loops (keyOf (sub (codeOf Try.f75) [1, 1, 0, 1, 0, 0])))) w') Q e w) e w
def q7 (pr : Prims) (k : Env → World → Prop) (Q : Exit → Env → World → Prop) : Exit → Env → World → Prop := fun ex e w => blockQ ex 1 (q6 pr k Q) e w
def q10 (pr : Prims) (k : Env → World → Prop) (Q : Exit → Env → World → Prop) : Exit → Env → World → Prop := fun ex e w => normQ ex (fun e w => contE pr cfg (sub (codeOf Try.f75) [1, 1, 0, 1, 0, 0, 1, 1, 0, 0, 1, 1]) (fun e w => wpC pr PP cfg (DD pr) (sub (codeOf Try.f75) [1, 1, 0, 1, 0, 0, 1, 1, 0, 0, 1, 1]) (q7 pr k Q) e w) e w) (q7 pr k Q) e w
def q11 (pr : Prims) (k : Env → World → Prop) (Q : Exit → Env → World → Prop) : Exit → Env → World → Prop := fun ex e w => blockQ ex 2 (q10 pr k Q) e w
def q12 (pr : Prims) (k : Env → World → Prop) (Q : Exit → Env → World → Prop) : Exit → Env → World → Prop := fun ex e w => normQ ex (fun e w => contE pr cfg (sub (codeOf Try.f75) [1, 1, 0, 1, 0, 0, 1, 1, 0, 0, 1, 0, 1, 0, 0, 1, 1, 1]) (fun e w => wpC pr PP cfg (DD pr) (sub (codeOf Try.f75) [1, 1, 0, 1, 0, 0, 1, 1, 0, 0, 1, 0, 1, 0, 0, 1, 1, 1]) (fun ex e w => normQ ex (fun e' w' => k (Env.restr e' (lookN cfg.loops (keyOf (sub (codeOf Try.f75) [1, 1, 0, 1, 0, 0, 1, 1, 0, 0, 1, 0, 1, 0, 0])))) w') Q e w) e w) e w) (fun ex e w => normQ ex (fun e' w' => k (Env.restr e' (lookN cfg.loops (keyOf (sub (codeOf Try.f75) [1, 1, 0, 1, 0, 0, 1, 1, 0, 0, 1, 0, 1, 0, 0])))) w') Q e w) e w
def q13 (pr : Prims) (k : Env → World → Prop) (Q : Exit → Env → World → Prop) : Exit → Env → World → Prop := fun ex e w => blockQ ex 3 (q12 pr k Q) e w
def q16 (pr : Prims) (k : Env → World → Prop) (Q : Exit → Env → World → Prop) : Exit → Env → World → Prop := fun ex e w => blockQ ex 4 (q13 pr k Q) e w
def emb3 (n_0 : Int) (out_3 : Sl) (t10 : Int) (t11 : Int) : Env := [(0, vI n_0), (3, Sl.v out_3), (10, vI t10), (11, vI t11)]
def emb6 (n_0 : Int) (longer_4 : Sl) (t10 : Int) (t11 : Int) (t14 : Sl) (t15 : Int) (t16 : Int) : Env := [(0, vI n_0), (4, Sl.v longer_4), (10, vI t10), (11, vI t11), (14, Sl.v t14), (15, vI t15), (16, vI t16)]
def emb9 (n_0 : Int) (longer_4 : Sl) (p_6 : Sl) (v_7 : Int) (t10 : Int) (t11 : Int) (t14 : Sl) (t15 : Int) (t16 : Int) : Env := [(0, vI n_0), (4, Sl.v longer_4), (6, Sl.v p_6), (7, vI v_7), (10, vI t10), (11, vI t11), (14, Sl.v t14), (15, vI t15), (16, vI t16)]
def x4 (n_0 : Int) (longer_4 : Sl) (t10 : Int) (t11 : Int) (t14 : Sl) (t15 : Int) (t16 : Int) : Env := [(0, vI n_0), (4, Sl.v longer_4), (10, vI t10), (11, vI t11), (14, Sl.v t14), (15, vI t15), (16, vI t16)]
def x2 (n_0 : Int) (longer_4 : Sl) (t10 : Int) (t11 : Int) : Env := [(0, vI n_0), (4, Sl.v longer_4), (10, vI t10), (11, vI t11)]
def x0 (out_3 : Sl) : Env := [(3, Sl.v out_3)]
def S9 (pr : Prims) (Q : Exit → Env → World → Prop) : (Env → World → Prop) → Env → World → Prop := fun k e w => wpC pr PP cfg (DD pr) (sub (codeOf Try.f75) [1, 1, 0, 1, 0, 0, 1, 1, 0, 0, 1, 0, 1, 0, 0, 1, 1, 0, 0, 1, 1, 0, 0]) (fun ex e w => normQ ex (fun e' w' => k (Env.restr e' (lookN cfg.loops (keyOf (sub (codeOf Try.f75) [1, 1, 0, 1, 0, 0, 1, 1, 0, 0, 1, 0, 1, 0, 0, 1, 1, 0, 0, 1, 1, 0, 0])))) w') Q e w) e w
def S6 (pr : Prims) (Q : Exit → Env → World → Prop) : (Env → World → Prop) → Env → World → Prop := fun k e w => wpC pr PP cfg (DD pr) (sub (codeOf Try.f75) [1, 1, 0, 1, 0, 0, 1, 1, 0, 0, 1, 0, 1, 0, 0]) (fun ex e w => normQ ex (fun e' w' => k (Env.restr e' (lookN cfg.loops (keyOf (sub (codeOf Try.f75) [1, 1, 0, 1, 0, 0, 1, 1, 0, 0, 1, 0, 1, 0, 0])))) w') Q e w) e w
def S3 (pr : Prims) (Q : Exit → Env → World → Prop) : (Env → World → Prop) → Env → World → Prop := fun k e w => wpC pr PP cfg (DD pr) (sub (codeOf Try.f75) [1, 1, 0, 1, 0, 0]) (fun ex e w => normQ ex (fun e' w' => k (Env.restr e' (lookN cfg.loops (keyOf (sub (codeOf Try.f75) [1, 1, 0, 1, 0, 0])))) w') Q e w) e w
def B9 (pr : Prims) (n_0 : Int) (longer_4 : Sl) (p_6 : Sl) (v_7 : Int) (t10 : Int) (t11 : Int) (t14 : Sl) (t15 : Int) (t16 : Int) (w : World) (k : Env → World → Prop) (Q : Exit → Env → World → Prop) : Prop :=
  S9 pr Q k (emb9 n_0 longer_4 p_6 v_7 t10 t11 t14 t15 t16) w
def L9 (pr : Prims) (n_0 : Int) (longer_4 : Sl) (p_6 : Sl) (v_7 : Int) (t10 : Int) (t11 : Int) (t14 : Sl) (t15 : Int) (t16 : Int) (w : World) (Q : Exit → Env → World → Prop) : Prop :=
  pr.loop (S9 pr Q) (emb9 n_0 longer_4 p_6 v_7 t10 t11 t14 t15 t16) w
def B6 (pr : Prims) (n_0 : Int) (longer_4 : Sl) (t10 : Int) (t11 : Int) (t14 : Sl) (t15 : Int) (t16 : Int) (w : World) (k : Env → World → Prop) (Q : Exit → Env → World → Prop) : Prop :=
  S6 pr Q k (emb6 n_0 longer_4 t10 t11 t14 t15 t16) w
def L6 (pr : Prims) (n_0 : Int) (longer_4 : Sl) (t10 : Int) (t11 : Int) (t14 : Sl) (t15 : Int) (t16 : Int) (w : World) (Q : Exit → Env → World → Prop) : Prop :=
  pr.loop (S6 pr Q) (emb6 n_0 longer_4 t10 t11 t14 t15 t16) w
def B3 (pr : Prims) (n_0 : Int) (out_3 : Sl) (t10 : Int) (t11 : Int) (w : World) (k : Env → World → Prop) (Q : Exit → Env → World → Prop) : Prop :=
  S3 pr Q k (emb3 n_0 out_3 t10 t11) w
def L3 (pr : Prims) (n_0 : Int) (out_3 : Sl) (t10 : Int) (t11 : Int) (w : World) (Q : Exit → Env → World → Prop) : Prop :=
  pr.loop (S3 pr Q) (emb3 n_0 out_3 t10 t11) w
def E (pr : Prims) (n_0 : Int) (w : World) (R : Ending → World → Prop) : Prop :=
  wpC pr PP cfg (DD pr) (codeOf Try.f75) (retQ Try.f75.results.toList R) (argE 0 [vI n_0]) w
theorem B9_eq (pr : Prims) (n_0 : Int) (longer_4 : Sl) (p_6 : Sl) (v_7 : Int) (t10 : Int) (t11 : Int) (t14 : Sl) (t15 : Int) (t16 : Int) (w : World) (k : Env → World → Prop) (Q : Exit → Env → World → Prop) : B9 pr n_0 longer_4 p_6 v_7 t10 t11 t14 t15 t16 w k Q = (
  bif decide (v_7 ≤ n_0) then (
  pr.call1 .bool PP F.slices_Contains___int_int_ #[Sl.v p_6, vI v_7] w fun (ρ17 : Bool) ω18 =>
  bif !ρ17 then (
  pr.call1 .sl PP F.slices_Clone___int_int_ #[Sl.v p_6] ω18 fun (ρ19 : Sl) ω20 =>
  pr.sem1 .sl PP (Instr.buildSlice T_Sint 1 #[(0, vI v_7)]) ω20 fun (ρ21 : Sl) ω22 =>
  pr.sem1 .sl PP (Builtin.append_ #[T_Sint, T_Sint] T_Sint #[Sl.v ρ19, Sl.v ρ21]) ω22 fun (ρ23 : Sl) ω24 =>
  pr.sem1 .sl PP (Instr.buildSlice T_SSint 1 #[(0, Sl.v ρ23)]) ω24 fun (ρ25 : Sl) ω26 =>
  pr.sem1 .sl PP (Builtin.append_ #[T_SSint, T_SSint] T_SSint #[Sl.v longer_4, Sl.v ρ25]) ω26 fun (ρ27 : Sl) ω28 =>
  k (emb9 n_0 ρ27 p_6 (w64 (v_7 + 1)) t10 t11 t14 t15 t16) ω28)
  else (
  k (emb9 n_0 longer_4 p_6 (w64 (v_7 + 1)) t10 t11 t14 t15 t16) ω18))
  else (
  Q (.exit 4) (x4 n_0 longer_4 t10 t11 t14 t15 t16) w)) := by kernel_rfl
theorem B9_s (n_0 : Int) (longer_4 : Sl) (p_6 : Sl) (v_7 : Int) (t10 : Int) (t11 : Int) (t14 : Sl) (t15 : Int) (t16 : Int) (w : World) (k : Env → World → Prop) (Q : Exit → Env → World → Prop) : B9 std n_0 longer_4 p_6 v_7 t10 t11 t14 t15 t16 w k Q = (
  bif decide (v_7 ≤ n_0) then (
  call1 .bool PP F.slices_Contains___int_int_ #[Sl.v p_6, vI v_7] w fun (ρ17 : Bool) ω18 =>
  bif !ρ17 then (
  call1 .sl PP F.slices_Clone___int_int_ #[Sl.v p_6] ω18 fun (ρ19 : Sl) ω20 =>
  sem1 .sl PP (Instr.buildSlice T_Sint 1 #[(0, vI v_7)]) ω20 fun (ρ21 : Sl) ω22 =>
  sem1 .sl PP (Builtin.append_ #[T_Sint, T_Sint] T_Sint #[Sl.v ρ19, Sl.v ρ21]) ω22 fun (ρ23 : Sl) ω24 =>
  sem1 .sl PP (Instr.buildSlice T_SSint 1 #[(0, Sl.v ρ23)]) ω24 fun (ρ25 : Sl) ω26 =>
  sem1 .sl PP (Builtin.append_ #[T_SSint, T_SSint] T_SSint #[Sl.v longer_4, Sl.v ρ25]) ω26 fun (ρ27 : Sl) ω28 =>
  k (emb9 n_0 ρ27 p_6 (w64 (v_7 + 1)) t10 t11 t14 t15 t16) ω28)
  else (
  k (emb9 n_0 longer_4 p_6 (w64 (v_7 + 1)) t10 t11 t14 t15 t16) ω18))
  else (
  Q (.exit 4) (x4 n_0 longer_4 t10 t11 t14 t15 t16) w)) := B9_eq std n_0 longer_4 p_6 v_7 t10 t11 t14 t15 t16 w k Q
theorem L9_rule (n_0 : Int) (longer_4 : Sl) (p_6 : Sl) (v_7 : Int) (t10 : Int) (t11 : Int) (t14 : Sl) (t15 : Int) (t16 : Int) (w : World) (Q : Exit → Env → World → Prop) (I : Sl → Int → World → Prop) (μ : Sl → Int → World → Nat) (h0 : I longer_4 v_7 w)
    (h : ∀ (longer_4 : Sl) (v_7 : Int) (w' : World), I longer_4 v_7 w' → B9 std n_0 longer_4 p_6 v_7 t10 t11 t14 t15 t16 w' (fun e2 w2 => ∃ longer_4_n v_7_n, e2 = emb9 n_0 longer_4_n p_6 v_7_n t10 t11 t14 t15 t16 ∧ I longer_4_n v_7_n w2 ∧ μ longer_4_n v_7_n w2 < μ longer_4 v_7 w') Q) :
    L9 std n_0 longer_4 p_6 v_7 t10 t11 t14 t15 t16 w Q := by
  unfold L9
  refine LoopE.intro (σ := Sl × Int) (step := S9 std Q) (fun s => emb9 n_0 s.1 p_6 s.2 t10 t11 t14 t15 t16) (fun s w => I s.1 s.2 w) (fun s w => μ s.1 s.2 w) (longer_4, v_7) rfl h0 ?_
  intro s w' hI
  have h1 := h s.1 s.2 w' hI
  unfold B9 at h1
  simp only [Prod.exists]
  exact h1
theorem A9_4_eq (pr : Prims) (n_0 : Int) (longer_4 : Sl) (t10 : Int) (t11 : Int) (t14 : Sl) (t15 : Int) (t16 : Int) (w : World) (k : Env → World → Prop) (Q : Exit → Env → World → Prop) : (q16 pr k Q) (.exit 4) (x4 n_0 longer_4 t10 t11 t14 t15 t16) w = (
  k (emb6 n_0 longer_4 t10 t11 t14 t15 (w64 (t16 + 1))) w) := by kernel_rfl
theorem A9_4_s (n_0 : Int) (longer_4 : Sl) (t10 : Int) (t11 : Int) (t14 : Sl) (t15 : Int) (t16 : Int) (w : World) (k : Env → World → Prop) (Q : Exit → Env → World → Prop) : (q16 std k Q) (.exit 4) (x4 n_0 longer_4 t10 t11 t14 t15 t16) w = (
  k (emb6 n_0 longer_4 t10 t11 t14 t15 (w64 (t16 + 1))) w) := A9_4_eq std n_0 longer_4 t10 t11 t14 t15 t16 w k Q
theorem B6_eq (pr : Prims) (n_0 : Int) (longer_4 : Sl) (t10 : Int) (t11 : Int) (t14 : Sl) (t15 : Int) (t16 : Int) (w : World) (k : Env → World → Prop) (Q : Exit → Env → World → Prop) : B6 pr n_0 longer_4 t10 t11 t14 t15 t16 w k Q = (
  bif decide (t16 < t15) then (
  pr.idxK 1 t14 t16 fun (a14 : Addr) =>
  pr.load1 .sl a14 w fun (ξ15 : Sl) =>
  L9 pr n_0 longer_4 ξ15 1 t10 t11 t14 t15 t16 w (q16 pr k Q))
  else (
  Q (.exit 2) (x2 n_0 longer_4 t10 t11) w)) := by kernel_rfl
theorem B6_s (n_0 : Int) (longer_4 : Sl) (t10 : Int) (t11 : Int) (t14 : Sl) (t15 : Int) (t16 : Int) (w : World) (k : Env → World → Prop) (Q : Exit → Env → World → Prop) : B6 std n_0 longer_4 t10 t11 t14 t15 t16 w k Q = (
  bif decide (t16 < t15) then (
  idxK 1 t14 t16 fun (a14 : Addr) =>
  load1 .sl a14 w fun (ξ15 : Sl) =>
  L9 std n_0 longer_4 ξ15 1 t10 t11 t14 t15 t16 w (q16 std k Q))
  else (
  Q (.exit 2) (x2 n_0 longer_4 t10 t11) w)) := B6_eq std n_0 longer_4 t10 t11 t14 t15 t16 w k Q
theorem L6_rule (n_0 : Int) (longer_4 : Sl) (t10 : Int) (t11 : Int) (t14 : Sl) (t15 : Int) (t16 : Int) (w : World) (Q : Exit → Env → World → Prop) (I : Sl → Int → World → Prop) (μ : Sl → Int → World → Nat) (h0 : I longer_4 t16 w)
    (h : ∀ (longer_4 : Sl) (t16 : Int) (w' : World), I longer_4 t16 w' → B6 std n_0 longer_4 t10 t11 t14 t15 t16 w' (fun e2 w2 => ∃ longer_4_n t16_n, e2 = emb6 n_0 longer_4_n t10 t11 t14 t15 t16_n ∧ I longer_4_n t16_n w2 ∧ μ longer_4_n t16_n w2 < μ longer_4 t16 w') Q) :
    L6 std n_0 longer_4 t10 t11 t14 t15 t16 w Q := by
  unfold L6
  refine LoopE.intro (σ := Sl × Int) (step := S6 std Q) (fun s => emb6 n_0 s.1 t10 t11 t14 t15 s.2) (fun s w => I s.1 s.2 w) (fun s w => μ s.1 s.2 w) (longer_4, t16) rfl h0 ?_
  intro s w' hI
  have h1 := h s.1 s.2 w' hI
  unfold B6 at h1
  simp only [Prod.exists]
  exact h1
theorem A6_2_eq (pr : Prims) (n_0 : Int) (longer_4 : Sl) (t10 : Int) (t11 : Int) (w : World) (k : Env → World → Prop) (Q : Exit → Env → World → Prop) : (q11 pr k Q) (.exit 2) (x2 n_0 longer_4 t10 t11) w = (
  k (emb3 n_0 longer_4 t10 (w64 (t11 + 1))) w) := by kernel_rfl
theorem A6_2_s (n_0 : Int) (longer_4 : Sl) (t10 : Int) (t11 : Int) (w : World) (k : Env → World → Prop) (Q : Exit → Env → World → Prop) : (q11 std k Q) (.exit 2) (x2 n_0 longer_4 t10 t11) w = (
  k (emb3 n_0 longer_4 t10 (w64 (t11 + 1))) w) := A6_2_eq std n_0 longer_4 t10 t11 w k Q
theorem A6_4_eq (pr : Prims) (n_0 : Int) (longer_4 : Sl) (t10 : Int) (t11 : Int) (t14 : Sl) (t15 : Int) (t16 : Int) (w : World) (k : Env → World → Prop) (Q : Exit → Env → World → Prop) : (q11 pr k Q) (.exit 4) (x4 n_0 longer_4 t10 t11 t14 t15 t16) w = (
  Q (.exit 4) (x4 n_0 longer_4 t10 t11 t14 t15 t16) w) := by kernel_rfl
theorem A6_4_s (n_0 : Int) (longer_4 : Sl) (t10 : Int) (t11 : Int) (t14 : Sl) (t15 : Int) (t16 : Int) (w : World) (k : Env → World → Prop) (Q : Exit → Env → World → Prop) : (q11 std k Q) (.exit 4) (x4 n_0 longer_4 t10 t11 t14 t15 t16) w = (
  Q (.exit 4) (x4 n_0 longer_4 t10 t11 t14 t15 t16) w) := A6_4_eq std n_0 longer_4 t10 t11 t14 t15 t16 w k Q
theorem B3_eq (pr : Prims) (n_0 : Int) (out_3 : Sl) (t10 : Int) (t11 : Int) (w : World) (k : Env → World → Prop) (Q : Exit → Env → World → Prop) : B3 pr n_0 out_3 t10 t11 w k Q = (
  bif decide (t11 < t10) then (
  pr.sem1 .sl PP (Instr.buildSlice T_SSint 0 #[]) w fun (ρ8 : Sl) ω9 =>
  L6 pr n_0 ρ8 t10 t11 out_3 (out_3.n : Int) 0 ω9 (q11 pr k Q))
  else (
  Q (.exit 0) (x0 out_3) w)) := by kernel_rfl
theorem B3_s (n_0 : Int) (out_3 : Sl) (t10 : Int) (t11 : Int) (w : World) (k : Env → World → Prop) (Q : Exit → Env → World → Prop) : B3 std n_0 out_3 t10 t11 w k Q = (
  bif decide (t11 < t10) then (
  sem1 .sl PP (Instr.buildSlice T_SSint 0 #[]) w fun (ρ8 : Sl) ω9 =>
  L6 std n_0 ρ8 t10 t11 out_3 (out_3.n : Int) 0 ω9 (q11 std k Q))
  else (
  Q (.exit 0) (x0 out_3) w)) := B3_eq std n_0 out_3 t10 t11 w k Q
theorem L3_rule (n_0 : Int) (out_3 : Sl) (t10 : Int) (t11 : Int) (w : World) (Q : Exit → Env → World → Prop) (I : Sl → Int → World → Prop) (μ : Sl → Int → World → Nat) (h0 : I out_3 t11 w)
    (h : ∀ (out_3 : Sl) (t11 : Int) (w' : World), I out_3 t11 w' → B3 std n_0 out_3 t10 t11 w' (fun e2 w2 => ∃ out_3_n t11_n, e2 = emb3 n_0 out_3_n t10 t11_n ∧ I out_3_n t11_n w2 ∧ μ out_3_n t11_n w2 < μ out_3 t11 w') Q) :
    L3 std n_0 out_3 t10 t11 w Q := by
  unfold L3
  refine LoopE.intro (σ := Sl × Int) (step := S3 std Q) (fun s => emb3 n_0 s.1 t10 s.2) (fun s w => I s.1 s.2 w) (fun s w => μ s.1 s.2 w) (out_3, t11) rfl h0 ?_
  intro s w' hI
  have h1 := h s.1 s.2 w' hI
  unfold B3 at h1
  simp only [Prod.exists]
  exact h1
theorem A3_0_eq (pr : Prims) (out_3 : Sl) (w : World) (R : Ending → World → Prop) : (q5 pr R) (.exit 0) (x0 out_3) w = (
  R (.returned (Sl.v out_3)) w) := by kernel_rfl
theorem A3_0_s (out_3 : Sl) (w : World) (R : Ending → World → Prop) : (q5 std R) (.exit 0) (x0 out_3) w = (
  R (.returned (Sl.v out_3)) w) := A3_0_eq std out_3 w R
theorem E_eq (pr : Prims) (n_0 : Int) (w : World) (R : Ending → World → Prop) : E pr n_0 w R = (
  pr.sem1 .sl PP (Instr.buildSlice T_Sint 0 #[]) w fun (ρ0 : Sl) ω1 =>
  pr.sem1 .sl PP (Instr.buildSlice T_SSint 1 #[(0, Sl.v ρ0)]) ω1 fun (ρ2 : Sl) ω3 =>
  L3 pr n_0 ρ2 n_0 0 ω3 (q5 pr R)) := by kernel_rfl
theorem E_s (n_0 : Int) (w : World) (R : Ending → World → Prop) : E std n_0 w R = (
  sem1 .sl PP (Instr.buildSlice T_Sint 0 #[]) w fun (ρ0 : Sl) ω1 =>
  sem1 .sl PP (Instr.buildSlice T_SSint 1 #[(0, Sl.v ρ0)]) ω1 fun (ρ2 : Sl) ω3 =>
  L3 std n_0 ρ2 n_0 0 ω3 (q5 std R)) := E_eq std n_0 w R
theorem drawsOk : drawsOk PP cfg okD (codeOf Try.f75) = true := by kernel_rfl
theorem calls (n_0 : Int) {w : World} {R : Ending → World → Prop} (h : E std n_0 w R) : Calls PP F.impl_perms #[vI n_0] w R :=
  calls_of noCount mixed drawOk Try.func75 rfl (c := cfg) (args := [vI n_0]) rfl (Nat.le_of_ble_eq_true (by kernel_rfl)) drawsOk h
end impl_perms

namespace slices_Contains___int_int_
@[reducible] def cfg : Cfg := ⟨9, [], [], [], [4], [], [101, 107, 112, 15, 21, 124, 76, 137, 28, 115, 91, 81, 130], [138, 140, 82, 6, 86, 85, 132]⟩
def E (pr : Prims) (s_0 : Sl) (v_1 : Int) (w : World) (R : Ending → World → Prop) : Prop :=
  wpC pr PP cfg (DD pr) (codeOf Try.f124) (retQ Try.f124.results.toList R) (argE 0 [Sl.v s_0, vI v_1]) w
theorem E_eq (pr : Prims) (s_0 : Sl) (v_1 : Int) (w : World) (R : Ending → World → Prop) : E pr s_0 v_1 w R = (
  pr.call1 (.int .i64) PP F.slices_Index___int_int_ #[Sl.v s_0, vI v_1] w fun (ρ0 : Int) ω1 =>
  R (.returned (.bool (decide (ρ0 ≥ 0)))) ω1) := by kernel_rfl
theorem E_s (s_0 : Sl) (v_1 : Int) (w : World) (R : Ending → World → Prop) : E std s_0 v_1 w R = (
  call1 (.int .i64) PP F.slices_Index___int_int_ #[Sl.v s_0, vI v_1] w fun (ρ0 : Int) ω1 =>
  R (.returned (.bool (decide (ρ0 ≥ 0)))) ω1) := E_eq std s_0 v_1 w R
theorem drawsOk : drawsOk PP cfg okD (codeOf Try.f124) = true := by kernel_rfl
theorem calls (s_0 : Sl) (v_1 : Int) {w : World} {R : Ending → World → Prop} (h : E std s_0 v_1 w R) : Calls PP F.slices_Contains___int_int_ #[Sl.v s_0, vI v_1] w R :=
  calls_of noCount mixed drawOk Try.func124 rfl (c := cfg) (args := [Sl.v s_0, vI v_1]) rfl (Nat.le_of_ble_eq_true (by kernel_rfl)) drawsOk h
end slices_Contains___int_int_

namespace slices_Index___int_int_
@[reducible] def cfg : Cfg := ⟨19, [(2, [0, 1, 7, 8])], [(1, [0, 1, 7, 8]), (0, [])], [], [4], [], [101, 107, 112, 15, 21, 124, 76, 137, 28, 115, 91, 81, 130], [138, 140, 82, 6, 86, 85, 132]⟩
def q0 (pr : Prims) (R : Ending → World → Prop) : Exit → Env → World → Prop := fun ex e w => normQ ex (fun e w => contE pr cfg (sub (codeOf Try.f137) [1, 1]) (fun e w => wpC pr PP cfg (DD pr) (sub (codeOf Try.f137) [1, 1]) (retQ Try.f137.results.toList R) e w) e w) (retQ Try.f137.results.toList R) e w
def q1 (pr : Prims) (R : Ending → World → Prop) : Exit → Env → World → Prop := fun ex e w => blockQ ex 0 (q0 pr R) e w
def emb2 (s_0 : Sl) (v_1 : Int) (t7 : Int) (t8 : Int) : Env := [(0, Sl.v s_0), (1, vI v_1), (7, vI t7), (8, vI t8)]
def x0 : Env := []
def S2 (pr : Prims) (Q : Exit → Env → World → Prop) : (Env → World → Prop) → Env → World → Prop := fun k e w => wpC pr PP cfg (DD pr) (sub (codeOf Try.f137) [1, 0, 1, 0, 0]) (fun ex e w => normQ ex (fun e' w' => k (Env.restr e' (lookN cfg.loops (keyOf (sub (codeOf Try.f137) [1, 0, 1, 0, 0])))) w') Q e w) e w
def B2 (pr : Prims) (s_0 : Sl) (v_1 : Int) (t7 : Int) (t8 : Int) (w : World) (k : Env → World → Prop) (Q : Exit → Env → World → Prop) : Prop :=
  S2 pr Q k (emb2 s_0 v_1 t7 t8) w
def L2 (pr : Prims) (s_0 : Sl) (v_1 : Int) (t7 : Int) (t8 : Int) (w : World) (Q : Exit → Env → World → Prop) : Prop :=
  pr.loop (S2 pr Q) (emb2 s_0 v_1 t7 t8) w
def E (pr : Prims) (s_0 : Sl) (v_1 : Int) (w : World) (R : Ending → World → Prop) : Prop :=
  wpC pr PP cfg (DD pr) (codeOf Try.f137) (retQ Try.f137.results.toList R) (argE 0 [Sl.v s_0, vI v_1]) w
theorem B2_eq (pr : Prims) (s_0 : Sl) (v_1 : Int) (t7 : Int) (t8 : Int) (w : World) (k : Env → World → Prop) (Q : Exit → Env → World → Prop) : B2 pr s_0 v_1 t7 t8 w k Q = (
  bif decide (t8 < t7) then (
  pr.idxK 1 s_0 t8 fun (a2 : Addr) =>
  pr.load1 (.int .i64) a2 w fun (ξ3 : Int) =>
  bif v_1 == ξ3 then (
  Q .ret [(4, vI t8)] w)
  else (
  k (emb2 s_0 v_1 t7 (w64 (t8 + 1))) w))
  else (
  Q (.exit 0) (x0) w)) := by kernel_rfl
theorem B2_s (s_0 : Sl) (v_1 : Int) (t7 : Int) (t8 : Int) (w : World) (k : Env → World → Prop) (Q : Exit → Env → World → Prop) : B2 std s_0 v_1 t7 t8 w k Q = (
  bif decide (t8 < t7) then (
  idxK 1 s_0 t8 fun (a2 : Addr) =>
  load1 (.int .i64) a2 w fun (ξ3 : Int) =>
  bif v_1 == ξ3 then (
  Q .ret [(4, vI t8)] w)
  else (
  k (emb2 s_0 v_1 t7 (w64 (t8 + 1))) w))
  else (
  Q (.exit 0) (x0) w)) := B2_eq std s_0 v_1 t7 t8 w k Q
theorem L2_rule (s_0 : Sl) (v_1 : Int) (t7 : Int) (t8 : Int) (w : World) (Q : Exit → Env → World → Prop) (I : Int → World → Prop) (μ : Int → World → Nat) (h0 : I t8 w)
    (h : ∀ (t8 : Int) (w' : World), I t8 w' → B2 std s_0 v_1 t7 t8 w' (fun e2 w2 => ∃ t8_n, e2 = emb2 s_0 v_1 t7 t8_n ∧ I t8_n w2 ∧ μ t8_n w2 < μ t8 w') Q) :
    L2 std s_0 v_1 t7 t8 w Q := by
  unfold L2
  refine LoopE.intro (σ := Int) (step := S2 std Q) (fun s => emb2 s_0 v_1 t7 s) (fun s w => I s w) (fun s w => μ s w) t8 rfl h0 ?_
  intro s w' hI
  have h1 := h s w' hI
  unfold B2 at h1
  exact h1
theorem A2_0_eq (pr : Prims) (w : World) (R : Ending → World → Prop) : (q1 pr R) (.exit 0) (x0) w = (
  R (.returned (vI (-1))) w) := by kernel_rfl
theorem A2_0_s (w : World) (R : Ending → World → Prop) : (q1 std R) (.exit 0) (x0) w = (
  R (.returned (vI (-1))) w) := A2_0_eq std w R
theorem R2_eq (pr : Prims) (v4 : Value) (w : World) (R : Ending → World → Prop) : (q1 pr R) .ret [(4, v4)] w = (
  R (.returned (v4)) w) := by kernel_rfl
theorem R2_s (v4 : Value) (w : World) (R : Ending → World → Prop) : (q1 std R) .ret [(4, v4)] w = (
  R (.returned (v4)) w) := R2_eq std v4 w R
theorem E_eq (pr : Prims) (s_0 : Sl) (v_1 : Int) (w : World) (R : Ending → World → Prop) : E pr s_0 v_1 w R = (
  L2 pr s_0 v_1 (s_0.n : Int) 0 w (q1 pr R)) := by kernel_rfl
theorem E_s (s_0 : Sl) (v_1 : Int) (w : World) (R : Ending → World → Prop) : E std s_0 v_1 w R = (
  L2 std s_0 v_1 (s_0.n : Int) 0 w (q1 std R)) := E_eq std s_0 v_1 w R
theorem drawsOk : drawsOk PP cfg okD (codeOf Try.f137) = true := by kernel_rfl
theorem calls (s_0 : Sl) (v_1 : Int) {w : World} {R : Ending → World → Prop} (h : E std s_0 v_1 w R) : Calls PP F.slices_Index___int_int_ #[Sl.v s_0, vI v_1] w R :=
  calls_of noCount mixed drawOk Try.func137 rfl (c := cfg) (args := [Sl.v s_0, vI v_1]) rfl (Nat.le_of_ble_eq_true (by kernel_rfl)) drawsOk h
end slices_Index___int_int_

namespace spec_l2Fill
@[reducible] def cfg : Cfg := ⟨35, [(4, [0, 1, 2, 7])], [(1, [0, 1, 2, 7]), (0, [2])], [], [6], [], [101, 107, 112, 15, 21, 124, 76, 137, 28, 115, 91, 81, 130], [138, 140, 82, 6, 86, 85, 132]⟩
def q4 (pr : Prims) (R : Ending → World → Prop) : Exit → Env → World → Prop := fun ex e w => normQ ex (fun e w => contE pr cfg (sub (codeOf Try.f127) [1, 1, 1]) (fun e w => wpC pr PP cfg (DD pr) (sub (codeOf Try.f127) [1, 1, 1]) (retQ Try.f127.results.toList R) e w) e w) (retQ Try.f127.results.toList R) e w
def q5 (pr : Prims) (R : Ending → World → Prop) : Exit → Env → World → Prop := fun ex e w => blockQ ex 0 (q4 pr R) e w
def emb4 (n_0 : Int) (head_1 : Sl) (out_2 : Sl) (v_7 : Int) : Env := [(0, vI n_0), (1, Sl.v head_1), (2, Sl.v out_2), (7, vI v_7)]
def x0 (out_2 : Sl) : Env := [(2, Sl.v out_2)]
def S4 (pr : Prims) (Q : Exit → Env → World → Prop) : (Env → World → Prop) → Env → World → Prop := fun k e w => wpC pr PP cfg (DD pr) (sub (codeOf Try.f127) [1, 1, 0, 1, 0, 0]) (fun ex e w => normQ ex (fun e' w' => k (Env.restr e' (lookN cfg.loops (keyOf (sub (codeOf Try.f127) [1, 1, 0, 1, 0, 0])))) w') Q e w) e w
def B4 (pr : Prims) (n_0 : Int) (head_1 : Sl) (out_2 : Sl) (v_7 : Int) (w : World) (k : Env → World → Prop) (Q : Exit → Env → World → Prop) : Prop :=
  S4 pr Q k (emb4 n_0 head_1 out_2 v_7) w
def L4 (pr : Prims) (n_0 : Int) (head_1 : Sl) (out_2 : Sl) (v_7 : Int) (w : World) (Q : Exit → Env → World → Prop) : Prop :=
  pr.loop (S4 pr Q) (emb4 n_0 head_1 out_2 v_7) w
def E (pr : Prims) (n_0 : Int) (head_1 : Sl) (out_2 : Sl) (w : World) (R : Ending → World → Prop) : Prop :=
  wpC pr PP cfg (DD pr) (codeOf Try.f127) (retQ Try.f127.results.toList R) (argE 0 [vI n_0, Sl.v head_1, Sl.v out_2]) w
theorem B4_eq (pr : Prims) (n_0 : Int) (head_1 : Sl) (out_2 : Sl) (v_7 : Int) (w : World) (k : Env → World → Prop) (Q : Exit → Env → World → Prop) : B4 pr n_0 head_1 out_2 v_7 w k Q = (
  bif decide (v_7 ≤ n_0) then (
  pr.call1 .bool PP F.spec_l2Has #[Sl.v head_1, vI v_7] w fun (ρ6 : Bool) ω7 =>
  bif !ρ6 then (
  pr.sem1 .sl PP (Instr.buildSlice T_Sint 0 #[]) ω7 fun (ρ8 : Sl) ω9 =>
  pr.sem1 .sl PP (Builtin.append_ #[T_Sint, T_Sint] T_Sint #[Sl.v ρ8, Sl.v head_1]) ω9 fun (ρ10 : Sl) ω11 =>
  pr.sem1 .sl PP (Instr.buildSlice T_Sint 1 #[(0, vI v_7)]) ω11 fun (ρ12 : Sl) ω13 =>
  pr.sem1 .sl PP (Builtin.append_ #[T_Sint, T_Sint] T_Sint #[Sl.v ρ10, Sl.v ρ12]) ω13 fun (ρ14 : Sl) ω15 =>
  pr.call1 .sl PP F.spec_l2Fill #[vI n_0, Sl.v ρ14, Sl.v out_2] ω15 fun (ρ16 : Sl) ω17 =>
  k (emb4 n_0 head_1 ρ16 (w64 (v_7 + 1))) ω17)
  else (
  k (emb4 n_0 head_1 out_2 (w64 (v_7 + 1))) ω7))
  else (
  Q (.exit 0) (x0 out_2) w)) := by kernel_rfl
theorem B4_s (n_0 : Int) (head_1 : Sl) (out_2 : Sl) (v_7 : Int) (w : World) (k : Env → World → Prop) (Q : Exit → Env → World → Prop) : B4 std n_0 head_1 out_2 v_7 w k Q = (
  bif decide (v_7 ≤ n_0) then (
  call1 .bool PP F.spec_l2Has #[Sl.v head_1, vI v_7] w fun (ρ6 : Bool) ω7 =>
  bif !ρ6 then (
  sem1 .sl PP (Instr.buildSlice T_Sint 0 #[]) ω7 fun (ρ8 : Sl) ω9 =>
  sem1 .sl PP (Builtin.append_ #[T_Sint, T_Sint] T_Sint #[Sl.v ρ8, Sl.v head_1]) ω9 fun (ρ10 : Sl) ω11 =>
  sem1 .sl PP (Instr.buildSlice T_Sint 1 #[(0, vI v_7)]) ω11 fun (ρ12 : Sl) ω13 =>
  sem1 .sl PP (Builtin.append_ #[T_Sint, T_Sint] T_Sint #[Sl.v ρ10, Sl.v ρ12]) ω13 fun (ρ14 : Sl) ω15 =>
  call1 .sl PP F.spec_l2Fill #[vI n_0, Sl.v ρ14, Sl.v out_2] ω15 fun (ρ16 : Sl) ω17 =>
  k (emb4 n_0 head_1 ρ16 (w64 (v_7 + 1))) ω17)
  else (
  k (emb4 n_0 head_1 out_2 (w64 (v_7 + 1))) ω7))
  else (
  Q (.exit 0) (x0 out_2) w)) := B4_eq std n_0 head_1 out_2 v_7 w k Q
theorem L4_rule (n_0 : Int) (head_1 : Sl) (out_2 : Sl) (v_7 : Int) (w : World) (Q : Exit → Env → World → Prop) (I : Sl → Int → World → Prop) (μ : Sl → Int → World → Nat) (h0 : I out_2 v_7 w)
    (h : ∀ (out_2 : Sl) (v_7 : Int) (w' : World), I out_2 v_7 w' → B4 std n_0 head_1 out_2 v_7 w' (fun e2 w2 => ∃ out_2_n v_7_n, e2 = emb4 n_0 head_1 out_2_n v_7_n ∧ I out_2_n v_7_n w2 ∧ μ out_2_n v_7_n w2 < μ out_2 v_7 w') Q) :
    L4 std n_0 head_1 out_2 v_7 w Q := by
  unfold L4
  refine LoopE.intro (σ := Sl × Int) (step := S4 std Q) (fun s => emb4 n_0 head_1 s.1 s.2) (fun s w => I s.1 s.2 w) (fun s w => μ s.1 s.2 w) (out_2, v_7) rfl h0 ?_
  intro s w' hI
  have h1 := h s.1 s.2 w' hI
  unfold B4 at h1
  simp only [Prod.exists]
  exact h1
theorem A4_0_eq (pr : Prims) (out_2 : Sl) (w : World) (R : Ending → World → Prop) : (q5 pr R) (.exit 0) (x0 out_2) w = (
  R (.returned (Sl.v out_2)) w) := by kernel_rfl
theorem A4_0_s (out_2 : Sl) (w : World) (R : Ending → World → Prop) : (q5 std R) (.exit 0) (x0 out_2) w = (
  R (.returned (Sl.v out_2)) w) := A4_0_eq std out_2 w R
theorem E_eq (pr : Prims) (n_0 : Int) (head_1 : Sl) (out_2 : Sl) (w : World) (R : Ending → World → Prop) : E pr n_0 head_1 out_2 w R = (
  bif (head_1.n : Int) == n_0 then (
  pr.sem1 .sl PP (Instr.buildSlice T_SSint 1 #[(0, Sl.v head_1)]) w fun (ρ0 : Sl) ω1 =>
  pr.sem1 .sl PP (Builtin.append_ #[T_SSint, T_SSint] T_SSint #[Sl.v out_2, Sl.v ρ0]) ω1 fun (ρ2 : Sl) ω3 =>
  R (.returned (Sl.v ρ2)) ω3)
  else (
  L4 pr n_0 head_1 out_2 1 w (q5 pr R))) := by kernel_rfl
theorem E_s (n_0 : Int) (head_1 : Sl) (out_2 : Sl) (w : World) (R : Ending → World → Prop) : E std n_0 head_1 out_2 w R = (
  bif (head_1.n : Int) == n_0 then (
  sem1 .sl PP (Instr.buildSlice T_SSint 1 #[(0, Sl.v head_1)]) w fun (ρ0 : Sl) ω1 =>
  sem1 .sl PP (Builtin.append_ #[T_SSint, T_SSint] T_SSint #[Sl.v out_2, Sl.v ρ0]) ω1 fun (ρ2 : Sl) ω3 =>
  R (.returned (Sl.v ρ2)) ω3)
  else (
  L4 std n_0 head_1 out_2 1 w (q5 std R))) := E_eq std n_0 head_1 out_2 w R
theorem drawsOk : drawsOk PP cfg okD (codeOf Try.f127) = true := by kernel_rfl
theorem calls (n_0 : Int) (head_1 : Sl) (out_2 : Sl) {w : World} {R : Ending → World → Prop} (h : E std n_0 head_1 out_2 w R) : Calls PP F.spec_l2Fill #[vI n_0, Sl.v head_1, Sl.v out_2] w R :=
  calls_of noCount mixed drawOk Try.func127 rfl (c := cfg) (args := [vI n_0, Sl.v head_1, Sl.v out_2]) rfl (Nat.le_of_ble_eq_true (by kernel_rfl)) drawsOk h
end spec_l2Fill

namespace spec_PermsOf
@[reducible] def cfg : Cfg := ⟨11, [], [], [], [2], [], [101, 107, 112, 15, 21, 124, 76, 137, 28, 115, 91, 81, 130], [138, 140, 82, 6, 86, 85, 132]⟩
def E (pr : Prims) (n_0 : Int) (w : World) (R : Ending → World → Prop) : Prop :=
  wpC pr PP cfg (DD pr) (codeOf Try.f80) (retQ Try.f80.results.toList R) (argE 0 [vI n_0]) w
theorem E_eq (pr : Prims) (n_0 : Int) (w : World) (R : Ending → World → Prop) : E pr n_0 w R = (
  pr.pcall1 .bool PP F.spec_l1In #[vI n_0, vI 0, vI 6] fun (ρ0 : Bool) =>
  bif !ρ0 then (
  pr.sem1 .sl PP (Instr.buildSlice T_SSint 0 #[]) w fun (ρ1 : Sl) ω2 =>
  R (.returned (Sl.v ρ1)) ω2)
  else (
  pr.sem1 .sl PP (Instr.buildSlice T_Sint 0 #[]) w fun (ρ3 : Sl) ω4 =>
  pr.sem1 .sl PP (Instr.buildSlice T_SSint 0 #[]) ω4 fun (ρ5 : Sl) ω6 =>
  pr.call1 .sl PP F.spec_l2Fill #[vI n_0, Sl.v ρ3, Sl.v ρ5] ω6 fun (ρ7 : Sl) ω8 =>
  R (.returned (Sl.v ρ7)) ω8)) := by kernel_rfl
theorem E_s (n_0 : Int) (w : World) (R : Ending → World → Prop) : E std n_0 w R = (
  pcall1 .bool PP F.spec_l1In #[vI n_0, vI 0, vI 6] fun (ρ0 : Bool) =>
  bif !ρ0 then (
  sem1 .sl PP (Instr.buildSlice T_SSint 0 #[]) w fun (ρ1 : Sl) ω2 =>
  R (.returned (Sl.v ρ1)) ω2)
  else (
  sem1 .sl PP (Instr.buildSlice T_Sint 0 #[]) w fun (ρ3 : Sl) ω4 =>
  sem1 .sl PP (Instr.buildSlice T_SSint 0 #[]) ω4 fun (ρ5 : Sl) ω6 =>
  call1 .sl PP F.spec_l2Fill #[vI n_0, Sl.v ρ3, Sl.v ρ5] ω6 fun (ρ7 : Sl) ω8 =>
  R (.returned (Sl.v ρ7)) ω8)) := E_eq std n_0 w R
theorem drawsOk : drawsOk PP cfg okD (codeOf Try.f80) = true := by kernel_rfl
theorem calls (n_0 : Int) {w : World} {R : Ending → World → Prop} (h : E std n_0 w R) : Calls PP F.spec_PermsOf #[vI n_0] w R :=
  calls_of noCount mixed drawOk Try.func80 rfl (c := cfg) (args := [vI n_0]) rfl (Nat.le_of_ble_eq_true (by kernel_rfl)) drawsOk h
end spec_PermsOf

end Go.Proofs.Ytdchjhhpbdekeaa

/- All permutations of a length: plain facts. -/
namespace Go.Proofs.Ytdchjhhpbdekeaa
open Go
set_option maxRecDepth 100000

def extV (n : Nat) (p : List Int) : List (List Int) := (idn n).flatMap fun v => if v ∈ p then [] else [p ++ [v]]
def lvl (n : Nat) : Nat → List (List Int)
  | 0 => [[]]
  | k + 1 => (lvl n k).flatMap (extV n)
def permsV (n : Nat) : List (List Int) := lvl n n
def fillN (n : Nat) : Nat → List Int → List (List Int)
  | 0, h => [h]
  | m + 1, h => (idn n).flatMap fun v => if v ∈ h then [] else fillN n m (h ++ [v])
theorem fillN_ext (n m : Nat) (h : List Int) : (extV n h).flatMap (fillN n m) = fillN n (m + 1) h := by
  rw [extV, List.flatMap_assoc, fillN]
  congr 1
  funext v
  split <;> simp
theorem fillN_lvl (n : Nat) : ∀ k m, (lvl n k).flatMap (fillN n m) = fillN n (k + m) []
  | 0, m => by simp [lvl]
  | k + 1, m => by
    rw [lvl, List.flatMap_assoc]
    have : (fun x => List.flatMap (fillN n m) (extV n x)) = fillN n (m + 1) := by funext h; exact fillN_ext n m h
    rw [this, fillN_lvl n k (m + 1)]
    congr 1; omega
theorem fillN_permsV (n : Nat) : fillN n n [] = permsV n := by
  have := fillN_lvl n n 0
  rw [Nat.add_zero] at this
  rw [← this, permsV]
  have : ∀ l : List (List Int), l.flatMap (fillN n 0) = l := fun l => by
    induction l with
    | nil => rfl
    | cons x r ih => rw [List.flatMap_cons, ih, fillN]; rfl
  rw [this]
theorem mem_extV {n : Nat} {p q : List Int} : q ∈ extV n p ↔ ∃ v, v ∈ idn n ∧ v ∉ p ∧ q = p ++ [v] := by
  simp only [extV, List.mem_flatMap]
  constructor
  · rintro ⟨v, h1, h2⟩
    split at h2
    · simp at h2
    · rename_i h3; exact ⟨v, h1, h3, by simpa using h2⟩
  · rintro ⟨v, h1, h2, h3⟩
    exact ⟨v, h1, by rw [if_neg h2]; simp [h3]⟩
theorem mem_lvl {n : Nat} : ∀ {k : Nat} {p : List Int}, p ∈ lvl n k ↔ p.length = k ∧ p.Nodup ∧ ∀ x ∈ p, x ∈ idn n
  | 0, p => by
    simp only [lvl, List.mem_singleton]
    constructor
    · rintro rfl; simp
    · rintro ⟨h, _⟩; exact List.eq_nil_of_length_eq_zero h
  | k + 1, p => by
    simp only [lvl, List.mem_flatMap, mem_extV, mem_lvl (k := k)]
    constructor
    · rintro ⟨q, ⟨h1, h2, h3⟩, v, h4, h5, rfl⟩
      refine ⟨by simp [h1], ?_, fun x hx => ?_⟩
      · rw [List.nodup_append]
        exact ⟨h2, by simp, fun a ha b hb e => by simp at hb; subst hb; subst e; exact h5 ha⟩
      · rcases List.mem_append.1 hx with h6 | h6
        · exact h3 x h6
        · simp at h6; subst h6; exact h4
    · rintro ⟨h1, h2, h3⟩
      obtain ⟨q, v, rfl⟩ : ∃ q v, p = q ++ [v] := ⟨p.dropLast, p.getLast (by rintro rfl; simp at h1), (List.dropLast_concat_getLast _).symm⟩
      rw [List.nodup_append] at h2
      refine ⟨q, ⟨by simpa using h1, h2.1, fun x hx => h3 x (by simp [hx])⟩, v, h3 v (by simp), fun hv => h2.2.2 v hv v (by simp) rfl, rfl⟩
theorem mem_permsV {n : Nat} {p : List Int} : p ∈ permsV n ↔ p.Perm (idn n) := by
  rw [permsV, mem_lvl]
  constructor
  · rintro ⟨h1, h2, h3⟩; exact perm_of_nodup h2 (fun x hx => mem_idn.1 (h3 x hx)) h1
  · intro h; exact ⟨by rw [h.length_eq, idn_length], h.nodup_iff.2 (idn_nodup n), fun x hx => h.mem_iff.1 hx⟩
theorem permsV_isP {n : Nat} (hn : n ≤ 8) {p : List Int} (h : p ∈ permsV n) : IsP p := isP_of (mem_permsV.1 h) hn
theorem permsV_len {n : Nat} {p : List Int} (h : p ∈ permsV n) : p.length = n := by rw [(mem_permsV.1 h).length_eq, idn_length]
theorem extV_length (n : Nat) (p : List Int) : (extV n p).length ≤ n := by
  unfold extV
  have : ∀ l : List Int, (l.flatMap fun v => if v ∈ p then [] else [p ++ [v]]).length ≤ l.length := fun l => by
    induction l with
    | nil => simp
    | cons x r ih =>
      rw [List.flatMap_cons, List.length_append, List.length_cons]
      have h1 : (if x ∈ p then [] else [p ++ [x]]).length ≤ 1 := by split <;> simp
      omega
  have h := this (idn n)
  rwa [idn_length] at h
theorem flatMap_len_le {α β : Type} (l : List α) (f : α → List β) (c : Nat) (h : ∀ x ∈ l, (f x).length ≤ c) : (l.flatMap f).length ≤ l.length * c := by
  induction l with
  | nil => simp
  | cons x r ih =>
    have h1 := h x (by simp)
    have h2 := ih (fun y hy => h y (by simp [hy]))
    simp only [List.flatMap_cons, List.length_append, List.length_cons, Nat.succ_mul]
    omega
theorem lvl_length (n : Nat) : ∀ k, (lvl n k).length ≤ n ^ k
  | 0 => by simp [lvl]
  | k + 1 => by
    rw [lvl, Nat.pow_succ]
    exact Nat.le_trans (flatMap_len_le _ _ n (fun x _ => extV_length n x)) (Nat.mul_le_mul_right _ (lvl_length n k))
theorem fillN_length (n : Nat) : ∀ m h, (fillN n m h).length ≤ n ^ m
  | 0, h => by simp [fillN]
  | m + 1, h => by
    rw [fillN, Nat.pow_succ, Nat.mul_comm]
    refine Nat.le_trans (flatMap_len_le _ _ (n ^ m) (fun v _ => ?_)) (by rw [idn_length]; exact Nat.le_refl _)
    split
    · simp
    · exact fillN_length n m _
theorem permsV_length (n : Nat) : (permsV n).length ≤ n ^ n := lvl_length n n
/-- idn, by steps -/
theorem idn_take_flat {β : Type} (f : Int → List β) {v : Int} (hv : 1 ≤ v) : (idn v.toNat).flatMap f = (idn (v - 1).toNat).flatMap f ++ f v := by
  rw [show v.toNat = (v - 1).toNat + 1 by omega, idn_succ, List.flatMap_append]
  simp only [List.flatMap_cons, List.flatMap_nil, List.append_nil]
  congr 2; omega
end Go.Proofs.Ytdchjhhpbdekeaa

/- All permutations of a length: the model's list and the program's. -/
namespace Go.Proofs.Ytdchjhhpbdekeaa
open Go Go.RowKit
set_option maxRecDepth 100000

def idxW (L : List Int) (v : Int) : Int := if L.findIdx (fun x => v == x) < L.length then (L.findIdx (fun x => v == x) : Int) else -1
theorem idxW_nonneg {L : List Int} {v : Int} : 0 ≤ idxW L v ↔ v ∈ L := by
  unfold idxW
  split
  · rename_i h
    rw [List.findIdx_lt_length] at h
    obtain ⟨x, h1, h2⟩ := h
    have : v = x := by simpa using h2
    subst this
    exact ⟨fun _ => h1, fun _ => by omega⟩
  · rename_i h
    rw [List.findIdx_lt_length] at h
    exact ⟨fun h0 => by omega, fun h0 => absurd ⟨v, h0, by simp⟩ h⟩
theorem c_Index {w : World} {a : Sl} {L : List Int} (ha : RowI w a L) (hL : L.length < 2^38) (v : Int) : Quiet F.slices_Index___int_int_ #[a.v, vI v] w (vI (idxW L v)) := by
  intro w1 hd
  have han : a.n = L.length := by have := ha.n; simpa using this
  refine slices_Index___int_int_.calls a v ?_
  rw [slices_Index___int_int_.E_s]
  refine slices_Index___int_int_.L2_rule _ _ _ _ _ _ (I := fun k w' => w' = w1 ∧ 0 ≤ k ∧ k ≤ L.length ∧ ∀ j, j < k.toNat → v ≠ L.getD j 0) (μ := fun k _ => (L.length - k).toNat) ⟨rfl, by omega, by omega, fun j hj => by simp at hj⟩ ?_
  rintro k w' ⟨rfl, h0, hk, hall⟩
  rw [slices_Index___int_int_.B2_s]
  refine bif_dec (fun h3 => ?_) (fun h3 => ?_)
  · have hlt : k.toNat < L.length := by omega
    refine RowI.get (ha.heap hd.heap') h0 (by omega) ?_
    refine bif_intro (fun h4 => ?_) (fun h4 => ?_)
    · rw [slices_Index___int_int_.R2_s]
      refine ⟨?_, Drew.refl _⟩
      have h4 : v = L.getD k.toNat 0 := by simpa using h4
      have : L.findIdx (fun x => v == x) = k.toNat := by
        rw [List.findIdx_eq hlt]
        refine ⟨by rw [← getD_lt hlt]; simpa using h4, fun j hj => ?_⟩
        have := hall j hj
        rw [getD_lt (by omega)] at this
        simpa using this
      rw [idxW, this, if_pos hlt]
      congr 2; omega
    · refine ⟨k + 1, by rw [w64_succ h0 (by omega)], ⟨rfl, by omega, by omega, fun j hj => ?_⟩, by omega⟩
      by_cases e : j = k.toNat
      · rw [e]; simpa using h4
      · exact hall j (by omega)
  · rw [slices_Index___int_int_.A2_0_s]
    refine ⟨?_, Drew.refl _⟩
    rw [idxW, if_neg]
    intro h5
    rw [List.findIdx_lt_length] at h5
    obtain ⟨x, h6, h7⟩ := h5
    obtain ⟨i, hi, rfl⟩ := List.getElem_of_mem h6
    have := hall i (by omega)
    rw [getD_lt hi] at this
    exact this (by simpa using h7)
open Classical in
theorem c_Contains {w : World} {a : Sl} {L : List Int} (ha : RowI w a L) (hL : L.length < 2^38) (v : Int) : Quiet F.slices_Contains___int_int_ #[a.v, vI v] w (.bool (decide (v ∈ L))) := by
  intro w1 hd
  refine slices_Contains___int_int_.calls a v ?_
  rw [slices_Contains___int_int_.E_s]
  refine (c_Index ha hL v w1 hd).mono ?_
  rintro e w2 ⟨rfl, hd2⟩
  refine ⟨_, rfl, ?_, hd2⟩
  congr 2
  simp only [ge_iff_le, idxW_nonneg]

theorem flat_snoc {α β : Type} (l : List α) (x : α) (f : α → List β) : (l ++ [x]).flatMap f = l.flatMap f ++ f x := by simp

theorem c_perms {w : World} (n : Nat) (hn : n ≤ 8) :
    Calls PP F.impl_perms #[vI n] w fun e w' => ∃ s : Sl, e = .returned s.v ∧ OwnSS w' w.heap.size s (permsV n) ∧ Below w.heap.size w w' := by
  refine impl_perms.calls n ?_
  rw [impl_perms.E_s]
  refine lit0 oneInt (B := w.heap.size) (Nat.le_refl _) ?_
  intro s0 w1 h0 hg1 hc1
  have hb1 := below_of_grow hg1
  refine lit1 oneSint (B := w.heap.size) hb1.size (One.sl s0) ?_
  intro t0 w2 ht0 hg2 hn2
  have hb2 := hb1.grown hg2 hb1.size (by simp)
  have hst : OwnSS w2 w.heap.size t0 (lvl n 0) := by
    refine ⟨[s0], ht0, rfl, fun i r L e1 e2 => ?_, fun i j r t hij e1 e2 => ?_⟩
    · cases i with
      | zero => simp [lvl] at e1 e2; subst e1 e2; exact h0.kept hg2 (fun _ _ => by simp)
      | succ i => simp at e1
    · cases i with
      | zero => cases j with
        | zero => exact absurd rfl hij
        | succ j => simp at e2
      | succ i => simp at e1
  have h88 : ∀ k, k ≤ n → (lvl n k).length ≤ 8 ^ 8 := fun k hk =>
    Nat.le_trans (lvl_length n k) (Nat.le_trans (Nat.pow_le_pow_left hn k) (Nat.pow_le_pow_right (by omega) (by omega)))
  refine impl_perms.L3_rule _ _ _ _ _ _ (I := fun out k w' => 0 ≤ k ∧ k ≤ n ∧ OwnSS w' w.heap.size out (lvl n k.toNat) ∧ Below w.heap.size w w') (μ := fun _ k _ => (n - k).toNat) ⟨by omega, by omega, hst, hb2⟩ ?_
  rintro out k w' ⟨hk0, hk, ho, hb⟩
  rw [impl_perms.B3_s]
  refine bif_dec (fun h3 => ?_) (fun h3 => ?_)
  · refine lit0 oneSint (B := w'.heap.size) (Nat.le_refl _) ?_
    intro l0 w3 hl0 hg3 _
    have hb3 := below_of_grow hg3
    have hon := ho.row.n
    have hkn := h88 k.toNat (by omega)
    rw [hon]
    refine impl_perms.L6_rule _ _ _ _ _ _ _ _ _ (I := fun lo i w4 => 0 ≤ i ∧ i ≤ (lvl n k.toNat).length ∧ OwnSS w4 w'.heap.size lo (((lvl n k.toNat).take i.toNat).flatMap (extV n)) ∧ Below w'.heap.size w' w4) (μ := fun _ i _ => ((lvl n k.toNat).length - i).toNat)
      ⟨by omega, by omega, OwnSS.nil hl0, hb3⟩ ?_
    rintro lo i w4 ⟨hi0, hi, hlo, hb4⟩
    rw [impl_perms.B6_s]
    refine bif_dec (fun h5 => ?_) (fun h5 => ?_)
    · have hlt : i.toNat < (lvl n k.toNat).length := by omega
      refine RowSS.getB ho.row hb4 hi0 (by omega) fun r hr => ?_
      rw [getD_SS hlt] at hr
      have hmem := List.getElem_mem hlt
      generalize hpe : (lvl n k.toNat)[i.toNat] = p at hr hmem
      have hplen : p.length = k.toNat := (mem_lvl.1 hmem).1
      have hcnt : (((lvl n k.toNat).take i.toNat).flatMap (extV n)).length ≤ 8 ^ 8 * 8 := by
        refine Nat.le_trans (flatMap_len_le _ _ 8 (fun x _ => Nat.le_trans (extV_length n x) hn)) (Nat.mul_le_mul_right _ ?_)
        rw [List.length_take]; omega
      have hcnt2 : ∀ v : Nat, v ≤ n → ((idn v).flatMap fun v => if v ∈ p then [] else [p ++ [v]]).length ≤ 8 := fun v hv => by
        refine Nat.le_trans (flatMap_len_le _ _ 1 (fun x _ => by split <;> simp)) ?_
        rw [idn_length]; omega
      refine impl_perms.L9_rule _ _ _ _ _ _ _ _ _ _ _ (I := fun lo2 v w5 => 1 ≤ v ∧ v ≤ n + 1 ∧ OwnSS w5 w'.heap.size lo2 (((lvl n k.toNat).take i.toNat).flatMap (extV n) ++ (idn (v - 1).toNat).flatMap fun v => if v ∈ p then [] else [p ++ [v]]) ∧ Below w'.heap.size w' w5) (μ := fun _ v _ => (n + 1 - v).toNat)
        ⟨by omega, by omega, by simpa [idn] using hlo, hb4⟩ ?_
      rintro lo2 v w5 ⟨hv1, hv, hlo2, hb5⟩
      rw [impl_perms.B9_s]
      refine bif_dec (fun h6 => ?_) (fun h6 => ?_)
      · refine Quiet.call1 (s := .bool) (c_Contains (hr.grow hb5) (by omega) v) ?_
        intro w6 hd6
        have hb6 := hb5.trans (hd6.below _)
        have hstep := idn_take_flat (fun v => if v ∈ p then [] else [p ++ [v]]) hv1
        have e1 : (v + 1 - 1).toNat = v.toNat := by omega
        refine bif_intro (fun h7 => ?_) (fun h7 => ?_)
        · have h7 : v ∉ p := by simpa using h7
          refine (c_Clone (hr.grow hb6) (by omega)).mono ?_
          rintro e w7 ⟨s, rfl, hs, hb67⟩
          refine ⟨s, rfl, ?_⟩
          refine append_int hs hb67.size (by omega) ?_
          intro t w8 ht hg8 _
          have hb68 := hb67.grown hg8 hb67.size (fun g hg => (hs.lt g hg).1)
          have hlo6 := hlo2.heap hd6.heap'
          have := hcnt2 (v - 1).toNat (by omega)
          refine append_new hlo6 hb68 hb6.size ht (by rw [List.length_append]; omega) ?_
          intro lo3 w9 hlo3 hg9 _
          refine ⟨lo3, v + 1, by rw [w64_succ (by omega) (by omega)], ⟨by omega, by omega, ?_, (hb6.trans (hb68.mono hb6.size)).grown hg9 (Nat.le_trans hb6.size hb68.size) (fun g hg => (hlo6.lt g hg).1)⟩, by omega⟩
          rw [e1, hstep, if_neg h7, ← List.append_assoc]
          exact hlo3
        · have h7 : v ∈ p := by simpa using h7
          refine ⟨lo2, v + 1, by rw [w64_succ (by omega) (by omega)], ⟨by omega, by omega, ?_, hb6⟩, by omega⟩
          rw [e1, hstep, if_pos h7, List.append_nil]
          exact hlo2.heap hd6.heap'
      · rw [impl_perms.A9_4_s]
        refine ⟨lo2, i + 1, by rw [w64_succ hi0 (by omega)], ⟨by omega, by omega, ?_, hb5⟩, by omega⟩
        rw [show (v - 1).toNat = n by omega] at hlo2
        rw [show (i + 1).toNat = i.toNat + 1 by omega, List.take_succ_eq_append_getElem hlt, flat_snoc, hpe]
        exact hlo2
    · rw [impl_perms.A6_2_s]
      rw [show i.toNat = (lvl n k.toNat).length by omega, List.take_length] at hlo
      refine ⟨lo, k + 1, by rw [w64_succ hk0 (by omega)], ⟨by omega, by omega, ?_, hb.trans (hb4.mono hb.size)⟩, by omega⟩
      rw [show (k + 1).toNat = k.toNat + 1 by omega, lvl]
      exact hlo.mono hb.size
  · rw [impl_perms.A3_0_s]
    rw [show k.toNat = n by omega] at ho
    exact ⟨out, rfl, ho, hb⟩
theorem c_l2Fill {w0 : World} (n : Nat) (hn : n ≤ 8) : ∀ (m : Nat) (w : World) (hd out : Sl) (rs : List Sl) (h : List Int) (LL : List (List Int)),
    Below w0.heap.size w0 w → OwnRows w w0.heap.size out rs LL → OwnI w w0.heap.size hd h → (∀ t ∈ rs, Apt t hd) → h.length + m = n → LL.length + 8 ^ m ≤ 2^30 →
    Calls PP F.spec_l2Fill #[vI n, hd.v, out.v] w fun e w' => ∃ s : Sl, e = .returned s.v ∧ OwnSS w' w0.heap.size s (LL ++ fillN n m h) ∧ w.grownBy w' out.blk ∧ Next w out s
  | 0, w, hd, out, rs, h, LL, hb, ho, hh, hap, hl, hc => by
    have hdn : hd.n = h.length := by have := hh.n; simpa using this
    refine spec_l2Fill.calls n hd out ?_
    rw [spec_l2Fill.E_s]
    refine bif_t (by simp; omega) ?_
    refine append_sl ho hb.size hh hap (by omega) ?_
    intro s' w' h1 h2 h3
    exact ⟨s', rfl, ⟨_, h1⟩, h2, h3⟩
  | m + 1, w, hd, out, rs, h, LL, hb, ho, hh, hap, hl, hc => by
    have hdn : hd.n = h.length := by have := hh.n; simpa using this
    refine spec_l2Fill.calls n hd out ?_
    rw [spec_l2Fill.E_s]
    refine bif_f (by simp; omega) ?_
    refine spec_l2Fill.L4_rule _ _ _ _ _ _ (I := fun s v w' => 1 ≤ v ∧ v ≤ n + 1 ∧ OwnSS w' w0.heap.size s (LL ++ (idn (v - 1).toNat).flatMap fun v => if v ∈ h then [] else fillN n m (h ++ [v])) ∧ w.grownBy w' out.blk ∧ Next w out s) (μ := fun _ v _ => (n + 1 - v).toNat)
      ⟨by omega, by omega, by simpa [idn] using ⟨rs, ho⟩, grownBy_refl _ _, fun g hg => .inl hg⟩ ?_
    rintro s v w' ⟨hv1, hv, hs, hg, hn2⟩
    have hbw : Below w0.heap.size w0 w' := hb.grown hg hb.size (fun g hg => (ho.out.lt g hg).1)
    have hh' : OwnI w' w0.heap.size hd h := hh.kept hg (fun g hg' e => (ho.out.apt hh (by decide)) g e hg')
    rw [spec_l2Fill.B4_s]
    refine bif_dec (fun h3 => ?_) (fun h3 => ?_)
    · refine Quiet.call1 (s := .bool) (c_l2Has hh'.row (by omega) v) ?_
      intro w1 hd1
      have hb1 : Below w'.heap.size w' w1 := hd1.below _
      obtain ⟨rs', hs⟩ := hs
      have hstep := idn_take_flat (fun v => if v ∈ h then [] else fillN n m (h ++ [v])) hv1
      have e1 : (v + 1 - 1).toNat = v.toNat := by omega
      have hcnt : ((idn (v - 1).toNat).flatMap fun v => if v ∈ h then [] else fillN n m (h ++ [v])).length ≤ 7 * 8 ^ m := by
        refine Nat.le_trans (flatMap_len_le _ _ (8 ^ m) (fun y hy => ?_)) ?_
        · split
          · simp
          · exact Nat.le_trans (fillN_length n m _) (Nat.pow_le_pow_left hn m)
        · rw [idn_length]; exact Nat.mul_le_mul_right _ (by omega)
      have hpow : 8 ^ (m + 1) = 8 * 8 ^ m := by rw [Nat.pow_succ]; omega
      refine bif_intro (fun h5 => ?_) (fun h5 => ?_)
      · have h5 : v ∉ h := by simpa using h5
        refine lit0 oneInt (B := w'.heap.size) hb1.size ?_
        intro t1 w2 ht1 hg1 _
        have hb2 := hb1.grown hg1 hb1.size (by simp)
        refine append_row oneInt ht1 hb2.size (hh'.row.grow hb2) (fun v hv => by obtain ⟨y, _, rfl⟩ := List.mem_map.1 hv; exact One.int y) (by simp; omega) ?_
        intro t2 w3 ht2 hg2 _ _
        have ht2 : OwnI w3 w'.heap.size t2 h := by simpa [OwnI] using ht2
        have hb3 := hb2.grown hg2 hb2.size (fun g hg => (ht1.lt g hg).1)
        refine append_int ht2 hb3.size (by omega) ?_
        intro t3 w4 ht3 hg3 _
        have hb4 := hb3.grown hg3 hb3.size (fun g hg => (ht2.lt g hg).1)
        have hb04 : Below w0.heap.size w0 w4 := hbw.trans (hb4.mono hbw.size)
        have hs4 := hs.grow hb4
        refine (c_l2Fill n hn m w4 t3 s rs' (h ++ [v]) _ hb04 hs4 (ht3.mono hbw.size) (fun t ht => Apt.of_lt (fun g hg => (hs.lt ht hg).2) (fun g hg => (ht3.lt g hg).1)) (by simp; omega) (by rw [List.length_append]; omega)).mono ?_
        rintro e w5 ⟨s5, rfl, hs5, hg5, hn5⟩
        refine ⟨s5, rfl, s5, v + 1, by rw [w64_id (by omega) (by omega)], ⟨by omega, by omega, ?_, ?_, ?_⟩, by omega⟩
        · rw [e1, hstep, if_neg h5, ← List.append_assoc]; exact hs5
        · refine ⟨hg5.os.trans (hb4.os.trans hg.os), hg5.tape.trans (hb4.tape.trans hg.tape), hg5.output.trans (hb4.output.trans hg.output), Nat.le_trans hg.size (Nat.le_trans hb4.size hg5.size), fun k hk hne => ?_⟩
          have hk' : k < w'.heap.size := Nat.lt_of_lt_of_le hk hg.size
          rw [hg5.block k (Nat.lt_of_lt_of_le hk' hb4.size) (fun e => by
            rcases hn2 k e.symm with h6 | h6
            · exact hne h6.symm
            · omega), hb4.block k hk', hg.block k hk hne]
        · intro g hg'
          rcases hn5 g hg' with h6 | h6
          · exact hn2 g h6
          · have := hg.size; have := hb4.size; exact .inr (by omega)
      · have h5 : v ∈ h := by simpa using h5
        refine ⟨s, v + 1, by rw [w64_id (by omega) (by omega)], ⟨by omega, by omega, ?_, ?_, hn2⟩, by omega⟩
        · rw [e1, hstep, if_pos h5, List.append_nil]; exact ⟨rs', hs.grow hb1⟩
        · refine ⟨hb1.os.trans hg.os, hb1.tape.trans hg.tape, hb1.output.trans hg.output, Nat.le_trans hg.size hb1.size, fun k hk hne => ?_⟩
          rw [hb1.block k (Nat.lt_of_lt_of_le hk hg.size), hg.block k hk hne]
    · rw [spec_l2Fill.A4_0_s]
      rw [show (v - 1).toNat = n by omega] at hs
      exact ⟨s, rfl, hs, hg, hn2⟩

def PermsV (n : Int) : List (List Int) := if 0 ≤ n ∧ n ≤ 6 then permsV n.toNat else []
theorem c_PermsOf {w : World} (n : Int) :
    Calls PP F.spec_PermsOf #[vI n] w fun e w' => ∃ s : Sl, e = .returned s.v ∧ OwnSS w' w.heap.size s (PermsV n) ∧ Below w.heap.size w w' := by
  refine spec_PermsOf.calls n ?_
  rw [spec_PermsOf.E_s]
  refine Pure.pcall1 (s := .bool) (c_l1In n 0 6) ?_
  refine bif_intro (fun h => ?_) (fun h => ?_)
  · have h : ¬ (0 ≤ n ∧ n ≤ 6) := by simp at h; omega
    refine lit0 oneSint (B := w.heap.size) (Nat.le_refl _) ?_
    intro s w1 hs hg _
    exact ⟨s, rfl, by rw [PermsV, if_neg h]; exact OwnSS.nil hs, below_of_grow hg⟩
  · have h : 0 ≤ n ∧ n ≤ 6 := by simpa using h
    obtain ⟨m, rfl⟩ : ∃ m : Nat, n = m := ⟨n.toNat, by omega⟩
    refine lit0 oneInt (B := w.heap.size) (Nat.le_refl _) ?_
    intro s w1 hs hg1 _
    have hb1 := below_of_grow hg1
    refine lit0 oneSint (B := w.heap.size) hb1.size ?_
    intro t w2 ht hg2 _
    have hb2 := hb1.grown hg2 hb1.size (by simp)
    have h8 : 8 ^ m ≤ 8 ^ 8 := Nat.pow_le_pow_right (by omega) (by omega)
    refine (c_l2Fill m (by omega) m w2 s t [] [] [] hb2 (OwnRows.nil ht) (hs.kept hg2 (by simp)) (fun t ht => by simp at ht) (by simp) (by simp only [List.length_nil]; omega)).mono ?_
    rintro e w3 ⟨u, rfl, hu, hg3, _⟩
    refine ⟨u, rfl, u, rfl, ?_, hb2.grown hg3 hb2.size (fun g hg => (ht.lt g hg).1)⟩
    rw [PermsV, if_pos h, Int.toNat_natCast, ← fillN_permsV]
    exact hu
end Go.Proofs.Ytdchjhhpbdekeaa

/- What each function does, step by step, written by a program (Gen.lean); each equation is checked by the kernel. -/
namespace Go.Proofs.Ytdchjhhpbdekeaa
open Go
set_option linter.unusedVariables false
set_option maxRecDepth 100000
end Go.Proofs.Ytdchjhhpbdekeaa

/- The laws' helpers over rows of rows: comparison, marks. -/
namespace Go.Proofs.Ytdchjhhpbdekeaa
open Go Go.RowKit
set_option maxRecDepth 100000

def marksSS (k : Int) : List (List Int) → List (List Int)
  | [] => []
  | L :: r => marks k L.length :: marksSS (k + L.length) r
theorem marksSS_length : ∀ (LL : List (List Int)) (k : Int), (marksSS k LL).length = LL.length
  | [], _ => rfl
  | L :: r, k => by simp [marksSS, marksSS_length r]
theorem marksSS_append : ∀ (A B : List (List Int)) (k : Int), marksSS k (A ++ B) = marksSS k A ++ marksSS (k + tot A) B
  | [], B, k => by simp [marksSS, tot_nil]
  | L :: r, B, k => by
    simp only [List.cons_append, marksSS, marksSS_append r B, tot_cons, List.cons.injEq, true_and]
    congr 2; omega
theorem marksSS_step {LL : List (List Int)} (k : Int) {i : Nat} (h : i < LL.length) :
    (marksSS k (LL.take i) ++ LL.drop i).set i (marks (k + tot (LL.take i)) (LL.getD i []).length) = marksSS k (LL.take (i + 1)) ++ LL.drop (i + 1) := by
  have h1 : LL.drop i = LL[i] :: LL.drop (i + 1) := by rw [List.drop_eq_getElem_cons h]
  have h2 : (marksSS k (LL.take i)).length = i := by rw [marksSS_length]; simp; omega
  rw [h1, List.set_append_right _ _ (by omega), h2, Nat.sub_self, List.set_cons_zero, List.take_succ_eq_append_getElem h, marksSS_append, List.append_assoc, getD_SS h]
  rfl
theorem marksSS_at {LL : List (List Int)} (k : Int) {i : Nat} (h : i < LL.length) : (marksSS k (LL.take i) ++ LL.drop i).getD i [] = LL.getD i [] := by
  have h2 : (marksSS k (LL.take i)).length = i := by rw [marksSS_length]; simp; omega
  rw [List.getD_eq_getElem?_getD, List.getElem?_append_right (by omega), h2, Nat.sub_self, List.getElem?_drop, List.getD_eq_getElem?_getD]
  simp
theorem marksSS_getD : ∀ {LL : List (List Int)} (k : Int) {i : Nat}, i < LL.length → (marksSS k LL).getD i [] = marks (k + tot (LL.take i)) (LL.getD i []).length
  | [], k, i, h => by simp at h
  | L :: r, k, 0, _ => by simp [marksSS, tot_nil]
  | L :: r, k, i + 1, h => by
    have := marksSS_getD (LL := r) (k + L.length) (i := i) (by simpa using h)
    simp only [List.getD_eq_getElem?_getD, marksSS, List.getElem?_cons_succ, List.take_succ_cons, tot_cons] at this ⊢
    rw [this]; congr 1; omega

end Go.Proofs.Ytdchjhhpbdekeaa

/- StackSources and CountTwoPasses: both texts, and the laws. -/
namespace Go.Proofs.Ytdchjhhpbdekeaa
open Go Go.RowKit
set_option maxRecDepth 100000

def srcV (L : List Int) (l : List (List Int)) : List (List Int) := l.filter fun p => decide (passV p = L)
theorem srcV_snoc (L : List Int) (l : List (List Int)) (p : List Int) : srcV L (l ++ [p]) = if passV p = L then srcV L l ++ [p] else srcV L l := by
  unfold srcV
  rw [List.filter_append]
  split
  · rename_i h; simp [h]
  · rename_i h; simp [h]
open Classical in
noncomputable def StackSourcesV (L : List Int) : List (List Int) := if IsP L ∧ L.length ≤ 6 then srcV L (permsV L.length) else []
theorem permsV_len6 {n : Nat} (hn : n ≤ 6) : (permsV n).length ≤ 46656 := Nat.le_trans (permsV_length n) (Nat.le_trans (Nat.pow_le_pow_left hn n) (Nat.pow_le_pow_right (by omega) hn))
theorem tot_le_mul {l : List (List Int)} {n : Nat} (h : ∀ p ∈ l, p.length ≤ n) : tot l ≤ l.length * n := by
  induction l with
  | nil => simp [tot]
  | cons x r ih =>
    have h1 := h x (by simp)
    have h2 := ih (fun p hp => h p (by simp [hp]))
    rw [tot_cons, List.length_cons, Nat.succ_mul]; omega
theorem StackSourcesV_len (L : List Int) : (StackSourcesV L).length < 2^38 ∧ tot (StackSourcesV L) < 2^38 := by
  unfold StackSourcesV
  split
  · rename_i h
    have h1 : (srcV L (permsV L.length)).length ≤ 46656 := Nat.le_trans (List.length_filter_le _ _) (permsV_len6 h.2)
    have h2 : tot (srcV L (permsV L.length)) ≤ (srcV L (permsV L.length)).length * 6 := tot_le_mul fun p hp => by
      have := permsV_len (List.mem_filter.1 hp).1
      omega
    omega
  · simp [tot]
theorem c_implStackSources {w : World} {a : Sl} {L : List Int} (ha : RowI w a L) (hL : L.length < 2^38) :
    Calls PP F.impl_StackSources #[a.v] w fun e w' => ∃ s : Sl, e = .returned s.v ∧ OwnSS w' w.heap.size s (StackSourcesV L) ∧ Below w.heap.size w w' := by
  have han : a.n = L.length := by have := ha.n; simpa using this
  refine impl_StackSources.calls a ?_
  rw [impl_StackSources.E_s, han]
  refine (c_implIsPerm ha hL).mono ?_
  rintro e w1 ⟨rfl, hb1⟩
  refine ⟨_, rfl, ?_⟩
  refine bif_intro (fun h => ?_) (fun h => ?_)
  · have h : ¬ IsP L := by simpa using h
    exact ⟨Sl.nil, rfl, by rw [StackSourcesV, if_neg (fun hh => h hh.1)]; exact OwnSS.none _ _, hb1⟩
  have h : IsP L := by simpa using h
  refine bif_dec (fun h6 => ?_) (fun h6 => ?_)
  · exact ⟨Sl.nil, rfl, by rw [StackSourcesV, if_neg (fun hh => by omega)]; exact OwnSS.none _ _, hb1⟩
  have hs : StackSourcesV L = srcV L (permsV L.length) := by rw [StackSourcesV, if_pos ⟨h, by omega⟩]
  refine lit0 oneSint (B := w.heap.size) hb1.size ?_
  intro o0 w2 ho0 hg2 _
  have hb2 := hb1.grown hg2 hb1.size (by simp)
  refine (c_perms L.length (by omega)).mono ?_
  rintro e w3 ⟨t, rfl, ht, hb23⟩
  refine ⟨t, rfl, ?_⟩
  have hb3 := hb2.trans (hb23.mono hb2.size)
  have htn := ht.row.n
  have hcnt := permsV_len6 (n := L.length) (by omega)
  obtain ⟨ts, ht⟩ := ht
  -- the rows that stand in the output are rows of the list of all
  refine impl_StackSources.L5_rule _ _ _ _ _ _ _ (I := fun s i w' => 0 ≤ i ∧ i ≤ (permsV L.length).length ∧ Below w.heap.size w w' ∧ OwnRows w' w2.heap.size t ts (permsV L.length) ∧ Apt s t ∧
      ∃ rs, OwnRows w' w.heap.size s rs (srcV L ((permsV L.length).take i.toNat)) ∧ (∀ r ∈ rs, ∃ j, j < i.toNat ∧ ts[j]? = some r)) (μ := fun _ i _ => ((permsV L.length).length - i).toNat)
    ⟨by omega, by omega, hb3, ht, Apt.of_lt (fun g hg => (ho0.lt g hg).2) (fun g hg => (ht.out.lt g hg).1), [], (OwnRows.nil ho0).grow hb23, fun r hr => by simp at hr⟩ ?_
  rintro s i w' ⟨hi0, hi, hb, htw, hst, rs, hrs, hsub⟩
  rw [impl_StackSources.B5_s, htn]
  refine bif_dec (fun h3 => ?_) (fun h3 => ?_)
  · have hlt : i.toNat < (permsV L.length).length := by omega
    refine OwnRows.load htw hi0 (by omega) fun r hr hor => ?_
    rw [getD_SS hlt] at hor
    have hpl := permsV_len (List.getElem_mem hlt)
    have hsucc : (i + 1).toNat = i.toNat + 1 := by omega
    refine (c_stackPass hor.row (by omega)).mono ?_
    rintro e w4 ⟨u, rfl, hu, hb4⟩
    refine ⟨u, rfl, ?_⟩
    refine Quiet.call1 (s := .bool) (c_Equal hu.row (ha.grow (hb.trans (hb4.mono hb.size))) (by rw [passV_length]; omega)) ?_
    intro w5 hd5
    have hb45 : Below w'.heap.size w' w5 := hb4.trans (hd5.below _)
    have hb5 := hb.trans (hb45.mono hb.size)
    have hcn : (srcV L ((permsV L.length).take i.toNat)).length ≤ 46656 := Nat.le_trans (List.length_filter_le _ _) (by rw [List.length_take]; omega)
    refine bif_dec (fun h7 => ?_) (fun h7 => ?_)
    · refine append_sl (hrs.grow hb45) hb5.size ((hor.grow hb45).mono hb2.size) (fun x hx g e1 e2 => ?_) (by omega) ?_
      · obtain ⟨j, hj, hj2⟩ := hsub x hx
        exact htw.apt j i.toNat x r (by omega) hj2 hr g e1 e2
      intro s' w6 hs6 hg6 hn6
      refine ⟨s', i + 1, by rw [w64_succ hi0 (by omega)], ⟨by omega, by omega, hb5.grown hg6 hb5.size (fun g hg => ((hrs.grow hb45).out.lt g hg).1), ?_, hst.next hn6 (fun g hg => ((htw.grow hb45).out.lt g hg).2), rs ++ [r], ?_, fun x hx => ?_⟩, by omega⟩
      · -- the list of all is not touched
        refine (htw.grow hb45).keeps (keeps_grown hg6) (fun g e1 e2 => hst g e2 e1) (fun x hx g e1 e2 => ?_)
        obtain ⟨M, _, hom⟩ := (htw.grow hb45).own hx
        exact ((hrs.grow hb45).out.apt hom (by decide)) g e2 e1
      · rw [hsucc, List.take_succ_eq_append_getElem hlt, srcV_snoc, if_pos h7]
        exact hs6
      · rcases List.mem_append.1 hx with h8 | h8
        · obtain ⟨j, hj, hj2⟩ := hsub x h8
          exact ⟨j, by omega, hj2⟩
        · have : x = r := by simpa using h8
          subst this; exact ⟨i.toNat, by omega, hr⟩
    · refine ⟨s, i + 1, by rw [w64_succ hi0 (by omega)], ⟨by omega, by omega, hb5, htw.grow hb45, hst, rs, ?_, fun x hx => ?_⟩, by omega⟩
      · rw [hsucc, List.take_succ_eq_append_getElem hlt, srcV_snoc, if_neg h7]
        exact hrs.grow hb45
      · obtain ⟨j, hj, hj2⟩ := hsub x hx
        exact ⟨j, by omega, hj2⟩
  · rw [impl_StackSources.A5_0_s]
    rw [show i.toNat = (permsV L.length).length by omega, List.take_length] at hrs
    exact ⟨s, rfl, by rw [hs]; exact ⟨rs, hrs⟩, hb⟩

theorem c_specStackSources {w : World} {a : Sl} {L : List Int} (ha : RowI w a L) (hL : L.length < 2^38) :
    Calls PP F.spec_StackSources #[a.v] w fun e w' => ∃ s : Sl, e = .returned s.v ∧ RowSS w' s (StackSourcesV L) ∧ Below w.heap.size w w' := by
  have han : a.n = L.length := by have := ha.n; simpa using this
  refine spec_StackSources.calls a ?_
  rw [spec_StackSources.E_s, han]
  refine lit0 oneSint (B := w.heap.size) (Nat.le_refl _) ?_
  intro o0 w1 ho0 hg1 _
  have hb1 := below_of_grow hg1
  refine Quiet.call1 (s := .bool) (c_specIsPerm (ha.grow hb1) hL) ?_
  intro w2 hd2
  have hb2 := hb1.trans (hd2.below _)
  have ho2 : OwnSS w2 w.heap.size o0 [] := (OwnSS.nil ho0).heap hd2.heap'
  refine bif_intro (fun h => ?_) (fun h => ?_)
  · have h : ¬ IsP L := by simpa using h
    exact ⟨o0, rfl, by rw [StackSourcesV, if_neg (fun hh => h hh.1)]; exact ho2.row, hb2⟩
  have h : IsP L := by simpa using h
  refine bif_dec (fun h6 => ?_) (fun h6 => ?_)
  · exact ⟨o0, rfl, by rw [StackSourcesV, if_neg (fun hh => by omega)]; exact ho2.row, hb2⟩
  have hs : StackSourcesV L = srcV L (permsV L.length) := by rw [StackSourcesV, if_pos ⟨h, by omega⟩]
  refine (c_PermsOf L.length).mono ?_
  rintro e w3 ⟨t, rfl, ht, hb23⟩
  refine ⟨t, rfl, ?_⟩
  have hp : PermsV (L.length : Int) = permsV L.length := by rw [PermsV, if_pos (by omega), Int.toNat_natCast]
  rw [hp] at ht
  have hb3 := hb2.trans (hb23.mono hb2.size)
  have htn := ht.row.n
  have hcnt := permsV_len6 (n := L.length) (by omega)
  obtain ⟨ts, ht⟩ := ht
  obtain ⟨os, ho2⟩ := ho2
  have hos : os = [] := by have := ho2.len; exact List.eq_nil_of_length_eq_zero (by simpa using this)
  subst hos
  refine spec_StackSources.L6_rule _ _ _ _ _ _ (I := fun s i w' => 0 ≤ i ∧ i ≤ (permsV L.length).length ∧ Below w.heap.size w w' ∧ OwnRows w' w2.heap.size t ts (permsV L.length) ∧ Apt s t ∧
      ∃ rs, OwnRows w' w.heap.size s rs (srcV L ((permsV L.length).take i.toNat)) ∧ (∀ r ∈ rs, ∃ j, j < i.toNat ∧ ts[j]? = some r)) (μ := fun _ i _ => ((permsV L.length).length - i).toNat)
    ⟨by omega, by omega, hb3, ht, Apt.of_lt (fun g hg => (ho2.out.lt g hg).2) (fun g hg => (ht.out.lt g hg).1), [], ho2.grow hb23, fun r hr => by simp at hr⟩ ?_
  rintro s i w' ⟨hi0, hi, hb, htw, hst, rs, hrs, hsub⟩
  rw [spec_StackSources.B6_s, htn]
  refine bif_dec (fun h3 => ?_) (fun h3 => ?_)
  · have hlt : i.toNat < (permsV L.length).length := by omega
    refine OwnRows.load htw hi0 (by omega) fun r hr hor => ?_
    rw [getD_SS hlt] at hor
    have hpl := permsV_len (List.getElem_mem hlt)
    have hsucc : (i + 1).toNat = i.toNat + 1 := by omega
    refine (c_l21Pass hor.row (by omega)).mono ?_
    rintro e w4 ⟨u, rfl, hu, hb4⟩
    refine ⟨u, rfl, ?_⟩
    refine Quiet.call1 (s := .bool) (c_l2Same hu.row (ha.grow (hb.trans (hb4.mono hb.size))) (by rw [passV_length]; omega)) ?_
    intro w5 hd5
    have hb45 : Below w'.heap.size w' w5 := hb4.trans (hd5.below _)
    have hb5 := hb.trans (hb45.mono hb.size)
    have hcn : (srcV L ((permsV L.length).take i.toNat)).length ≤ 46656 := Nat.le_trans (List.length_filter_le _ _) (by rw [List.length_take]; omega)
    refine bif_dec (fun h7 => ?_) (fun h7 => ?_)
    · refine OwnRows.load (htw.grow hb45) hi0 (by omega) fun r2 hr2 hor2 => ?_
      rw [hr] at hr2
      obtain rfl : r = r2 := by simpa using hr2
      refine append_sl (hrs.grow hb45) hb5.size ((hor.grow hb45).mono hb2.size) (fun x hx g e1 e2 => ?_) (by omega) ?_
      · obtain ⟨j, hj, hj2⟩ := hsub x hx
        exact htw.apt j i.toNat x r (by omega) hj2 hr g e1 e2
      intro s' w6 hs6 hg6 hn6
      refine ⟨s', i + 1, by rw [w64_succ hi0 (by omega)], ⟨by omega, by omega, hb5.grown hg6 hb5.size (fun g hg => ((hrs.grow hb45).out.lt g hg).1), ?_, hst.next hn6 (fun g hg => ((htw.grow hb45).out.lt g hg).2), rs ++ [r], ?_, fun x hx => ?_⟩, by omega⟩
      · refine (htw.grow hb45).keeps (keeps_grown hg6) (fun g e1 e2 => hst g e2 e1) (fun x hx g e1 e2 => ?_)
        obtain ⟨M, _, hom⟩ := (htw.grow hb45).own hx
        exact ((hrs.grow hb45).out.apt hom (by decide)) g e2 e1
      · rw [hsucc, List.take_succ_eq_append_getElem hlt, srcV_snoc, if_pos h7]
        exact hs6
      · rcases List.mem_append.1 hx with h8 | h8
        · obtain ⟨j, hj, hj2⟩ := hsub x h8
          exact ⟨j, by omega, hj2⟩
        · have : x = r := by simpa using h8
          subst this; exact ⟨i.toNat, by omega, hr⟩
    · refine ⟨s, i + 1, by rw [w64_succ hi0 (by omega)], ⟨by omega, by omega, hb5, htw.grow hb45, hst, rs, ?_, fun x hx => ?_⟩, by omega⟩
      · rw [hsucc, List.take_succ_eq_append_getElem hlt, srcV_snoc, if_neg h7]
        exact hrs.grow hb45
      · obtain ⟨j, hj, hj2⟩ := hsub x hx
        exact ⟨j, by omega, hj2⟩
  · rw [spec_StackSources.A6_0_s]
    rw [show i.toNat = (permsV L.length).length by omega, List.take_length] at hrs
    exact ⟨s, rfl, by rw [hs]; exact hrs.row, hb⟩

/-! ### CountTwoPasses -/
open Classical in
noncomputable def twoW (l : List (List Int)) : Nat := l.countP fun p => decide (tmV p ≤ 2)
theorem itW_idn (n : Nat) (hn : n ≤ 8) : passV (idn n) = idn n := by
  have h := it_last (isP_idn hn)
  rw [idn_length] at h
  -- the identity comes out as it is
  have : passV ([] ++ idn n) = passV [] ++ idn n := passV_tail n (idn n) (idn_length n) (fun x hx => by simp at hx) (by
    simp only [idn, List.pairwise_map]
    exact List.Pairwise.imp (fun h => by omega) List.pairwise_lt_range)
  simpa [passV, runW] using this
theorem two_iff {p : List Int} (h : IsP p) : tmV p ≤ 2 ↔ Rising (passV (passV p)) := by
  have stay : ∀ k, Rising (itW k p) → Rising (itW (k + 1) p) := fun k hk => by
    have hp := isP_it h k
    rw [hp.rising] at hk
    have hl := (itW_perm p k).length_eq
    rw [itW, hk, itW_idn _ (by rw [hl]; exact h.1)]
    exact rising_idn _
  obtain ⟨m, hm⟩ : ∃ m, Tm p m := by
    have hex : ∃ m, Rising (itW m p) := ⟨p.length, by rw [it_last h]; exact rising_idn _⟩
    have : ∀ n, (∃ m, m ≤ n ∧ Rising (itW m p)) → ∃ m, Tm p m := fun n => by
      induction n with
      | zero => rintro ⟨m, hm, hr⟩; exact ⟨0, by have : m = 0 := by omega
                                                 subst this; exact hr, fun j hj => by omega⟩
      | succ n ih =>
        rintro ⟨m, hm, hr⟩
        by_cases hc : ∃ m, m ≤ n ∧ Rising (itW m p)
        · exact ih hc
        · have : m = n + 1 := by
            rcases Nat.lt_or_ge n m with h1 | h1
            · omega
            · exact absurd ⟨m, h1, hr⟩ hc
          subst this
          exact ⟨n + 1, hr, fun j hj hj2 => hc ⟨j, by omega, hj2⟩⟩
    obtain ⟨m, hm⟩ := hex
    exact this m ⟨m, Nat.le_refl _, hm⟩
  rw [hm.eq]
  constructor
  · intro hle
    have h2 : ∀ k, m ≤ k → Rising (itW k p) := fun k hk => by
      induction k with
      | zero => have : m = 0 := by omega
                rw [← this]; exact hm.1
      | succ k ih =>
        rcases Nat.lt_or_ge k m with h1 | h1
        · have : m = k + 1 := by omega
          rw [← this]; exact hm.1
        · exact stay k (ih h1)
    exact h2 2 hle
  · intro hr
    rcases Nat.lt_or_ge 2 m with h1 | h1
    · exact absurd hr (hm.2 2 h1)
    · exact h1
noncomputable def CountTwoPassesV (n : Int) : Int := if 0 ≤ n ∧ n ≤ 6 then (twoW (permsV n.toNat) : Int) else -1
theorem c_isSix (n : Int) : Pure F.impl_isSix #[vI n] (.bool (decide (0 ≤ n) && decide (n ≤ 6))) := by
  intro w
  refine impl_isSix.calls n ?_
  rw [impl_isSix.E_s]
  refine bif_dec (fun h => ?_) (fun h => ?_)
  · exact ⟨by simp; omega, rfl⟩
  · exact ⟨by simp; omega, rfl⟩
theorem c_two {w : World} {a : Sl} {L : List Int} (ha : RowI w a L) (h : IsP L) :
    Calls PP F.impl_CountTwoPassesL1 #[a.v] w fun e w' => e = .returned (.bool (decide (tmV L ≤ 2))) ∧ Below w.heap.size w w' := by
  refine impl_CountTwoPassesL1.calls a ?_
  rw [impl_CountTwoPassesL1.E_s]
  refine (c_timesOf ha h).mono ?_
  rintro e w1 ⟨rfl, hb⟩
  exact ⟨_, rfl, congrArg (fun b => Ending.returned (Value.bool b)) (decide_eq_decide.2 (by omega)), hb⟩
theorem twoW_snoc (l : List (List Int)) (p : List Int) : twoW (l ++ [p]) = twoW l + if tmV p ≤ 2 then 1 else 0 := by
  unfold twoW
  rw [List.countP_append]
  congr 1
  rw [List.countP_singleton]
  simp
theorem bodied_two : bodied PP F.impl_CountTwoPassesL1 = true := by kernel_rfl
theorem c_counted {w : World} (n : Nat) (hn : n ≤ 6) :
    Calls PP F.impl_counted #[vI n, .func (.func F.impl_CountTwoPassesL1) #[] #[]] w fun e w' => e = .returned (vI (twoW (permsV n))) ∧ Below w.heap.size w w' := by
  refine impl_counted.calls n _ ?_
  rw [impl_counted.E_s]
  refine (c_perms n (by omega)).mono ?_
  rintro e w1 ⟨t, rfl, ht, hb1⟩
  refine ⟨t, rfl, ?_⟩
  have htn := ht.row.n
  have hcnt := permsV_len6 hn
  refine impl_counted.L3_rule _ _ _ _ _ _ _ (I := fun m i w' => 0 ≤ i ∧ i ≤ (permsV n).length ∧ Below w1.heap.size w1 w' ∧ m = twoW ((permsV n).take i.toNat)) (μ := fun _ i _ => ((permsV n).length - i).toNat)
    ⟨by omega, by omega, Below.refl _ _, rfl⟩ ?_
  rintro m i w' ⟨hi0, hi, hb, hm⟩
  rw [impl_counted.B3_s, htn]
  have hle : twoW ((permsV n).take i.toNat) ≤ 46656 := Nat.le_trans List.countP_le_length (by rw [List.length_take]; omega)
  refine bif_dec (fun h3 => ?_) (fun h3 => ?_)
  · have hlt : i.toNat < (permsV n).length := by omega
    refine RowSS.get (ht.row.grow hb) hi0 (by omega) fun r hr => ?_
    rw [getD_SS hlt] at hr
    refine ⟨_, #[], #[], rfl, bodied_two, ?_⟩
    refine (c_two hr (permsV_isP (by omega) (List.getElem_mem hlt))).mono ?_
    rintro e w2 ⟨rfl, hb2⟩
    refine ⟨_, rfl, ?_⟩
    have hb12 := hb.trans (hb2.mono hb.size)
    have hst : twoW ((permsV n).take (i + 1).toNat) = twoW ((permsV n).take i.toNat) + if tmV (permsV n)[i.toNat] ≤ 2 then 1 else 0 := by
      rw [show (i + 1).toNat = i.toNat + 1 by omega, List.take_succ_eq_append_getElem hlt, twoW_snoc]
    refine bif_dec (fun h4 => ?_) (fun h4 => ?_)
    · refine ⟨m + 1, i + 1, by rw [w64_succ hi0 (by omega), w64_succ (by omega) (by omega)], ⟨by omega, by omega, hb12, ?_⟩, by omega⟩
      rw [hst, if_pos h4]; omega
    · refine ⟨m, i + 1, by rw [w64_succ hi0 (by omega)], ⟨by omega, by omega, hb12, ?_⟩, by omega⟩
      rw [hst, if_neg h4]; omega
  · rw [impl_counted.A3_0_s]
    rw [show i.toNat = (permsV n).length by omega, List.take_length] at hm
    exact ⟨by rw [hm], hb1.trans (hb.mono hb1.size)⟩
theorem c_implCountTwoPasses {w : World} (n : Int) :
    Calls PP F.impl_CountTwoPasses #[vI n] w fun e w' => e = .returned (vI (CountTwoPassesV n)) ∧ Below w.heap.size w w' := by
  refine impl_CountTwoPasses.calls n ?_
  rw [impl_CountTwoPasses.E_s]
  refine Pure.pcall1 (s := .bool) (c_isSix n) ?_
  refine bif_intro (fun h => ?_) (fun h => ?_)
  · have h : ¬ (0 ≤ n ∧ n ≤ 6) := by simp at h; omega
    exact ⟨by rw [CountTwoPassesV, if_neg h], Below.refl _ _⟩
  · have h : 0 ≤ n ∧ n ≤ 6 := by simpa using h
    obtain ⟨m, rfl⟩ : ∃ m : Nat, n = m := ⟨n.toNat, by omega⟩
    refine (c_counted m (by omega)).mono ?_
    rintro e w1 ⟨rfl, hb⟩
    exact ⟨_, rfl, by rw [CountTwoPassesV, if_pos h, Int.toNat_natCast], hb⟩
theorem c_specCountTwoPasses {w : World} (n : Int) :
    Calls PP F.spec_CountTwoPasses #[vI n] w fun e w' => e = .returned (vI (CountTwoPassesV n)) ∧ Below w.heap.size w w' := by
  refine spec_CountTwoPasses.calls n ?_
  rw [spec_CountTwoPasses.E_s]
  refine Pure.pcall1 (s := .bool) (c_l1In n 0 6) ?_
  refine bif_intro (fun h => ?_) (fun h => ?_)
  · have h : ¬ (0 ≤ n ∧ n ≤ 6) := by simp at h; omega
    exact ⟨by rw [CountTwoPassesV, if_neg h], Below.refl _ _⟩
  have h : 0 ≤ n ∧ n ≤ 6 := by simpa using h
  obtain ⟨n, rfl⟩ : ∃ m : Nat, n = m := ⟨n.toNat, by omega⟩
  refine (c_PermsOf n).mono ?_
  rintro e w1 ⟨t, rfl, ht, hb1⟩
  refine ⟨t, rfl, ?_⟩
  have hp : PermsV (n : Int) = permsV n := by rw [PermsV, if_pos (by omega), Int.toNat_natCast]
  rw [hp] at ht
  have htn := ht.row.n
  have hcnt := permsV_len6 (n := n) (by omega)
  refine spec_CountTwoPasses.L6_rule _ _ _ _ _ (I := fun m i w' => 0 ≤ i ∧ i ≤ (permsV n).length ∧ Below w1.heap.size w1 w' ∧ m = twoW ((permsV n).take i.toNat)) (μ := fun _ i _ => ((permsV n).length - i).toNat)
    ⟨by omega, by omega, Below.refl _ _, rfl⟩ ?_
  rintro m i w' ⟨hi0, hi, hb, hm⟩
  rw [spec_CountTwoPasses.B6_s, htn]
  have hle : twoW ((permsV n).take i.toNat) ≤ 46656 := Nat.le_trans List.countP_le_length (by rw [List.length_take]; omega)
  refine bif_dec (fun h3 => ?_) (fun h3 => ?_)
  · have hlt : i.toNat < (permsV n).length := by omega
    refine RowSS.get (ht.row.grow hb) hi0 (by omega) fun r hr => ?_
    rw [getD_SS hlt] at hr
    have hP := permsV_isP (n := n) (by omega) (List.getElem_mem hlt)
    have h8 := hP.1
    refine (c_l21Pass hr (by omega)).mono ?_
    rintro e w2 ⟨u, rfl, hu, hb2⟩
    refine ⟨u, rfl, ?_⟩
    refine (c_l21Pass hu.row (by rw [passV_length]; omega)).mono ?_
    rintro e w3 ⟨v, rfl, hv, hb3⟩
    refine ⟨v, rfl, ?_⟩
    refine (c_l13Straight hv.row (by rw [passV_length, passV_length]; omega)).mono ?_
    rintro e w4 ⟨rfl, hb4⟩
    refine ⟨_, rfl, ?_⟩
    refine Pure.pcall1 (s := .int .i64) (c_l1Bit _) ?_
    have hb14 := ((hb.trans (hb2.mono hb.size)).trans (hb3.mono (Nat.le_trans hb.size hb2.size))).trans (hb4.mono (Nat.le_trans hb.size (Nat.le_trans hb2.size hb3.size)))
    have hst : twoW ((permsV n).take (i + 1).toNat) = twoW ((permsV n).take i.toNat) + if tmV (permsV n)[i.toNat] ≤ 2 then 1 else 0 := by
      rw [show (i + 1).toNat = i.toNat + 1 by omega, List.take_succ_eq_append_getElem hlt, twoW_snoc]
    have hiff : tmV (permsV n)[i.toNat] ≤ 2 ↔ passV (passV (permsV n)[i.toNat]) = idn (passV (passV (permsV n)[i.toNat])).length := by
      rw [two_iff hP, (isP_pass (isP_pass hP)).rising]
    refine ⟨m + if tmV (permsV n)[i.toNat] ≤ 2 then 1 else 0, i + 1, ?_, ⟨by omega, by omega, hb14, by rw [hst, hm]; split <;> omega⟩, by omega⟩
    rw [w64_succ hi0 (by omega)]
    congr 1
    by_cases h5 : tmV (permsV n)[i.toNat] ≤ 2
    · rw [if_pos h5]
      have h6 := hiff.1 h5
      rw [if_pos (by simpa using h6), w64_succ (by omega) (by omega)]
    · rw [if_neg h5]
      have h6 : ¬ (passV (passV (permsV n)[i.toNat]) = idn (passV (passV (permsV n)[i.toNat])).length) := fun e => h5 (hiff.2 e)
      rw [if_neg (by simpa using h6), w64_id (by omega) (by omega)]
  · rw [spec_CountTwoPasses.A6_0_s]
    rw [show i.toNat = (permsV n).length by omega, List.take_length] at hm
    exact ⟨by rw [CountTwoPassesV, if_pos h, Int.toNat_natCast, hm], hb1.trans (hb.mono hb1.size)⟩

end Go.Proofs.Ytdchjhhpbdekeaa
