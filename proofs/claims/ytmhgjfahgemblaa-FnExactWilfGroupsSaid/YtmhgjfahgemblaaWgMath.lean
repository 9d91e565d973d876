/- Groups of permutations by the counts of their classes. -/
import Derived.Test.YtmhgjfahgemblaaClCo
import Derived.Test.YtmhgjfahgemblaaS3b
namespace Go.Proofs.Ytmhgjfahgemblaa
open Go Go.RowKit
set_option maxRecDepth 100000

open Classical in
noncomputable def wgA (n : Int) (C : List (List Int)) (p : List Int) : Nat := C.findIdx fun d => decide (d = ClassCountsV [p] n)
open Classical in
noncomputable def wgStep (n : Int) (st : List (List Int) × List (List (List Int))) (p : List Int) : List (List Int) × List (List (List Int)) :=
  if wgA n st.1 p < st.1.length then (st.1, st.2.set (wgA n st.1 p) (st.2.getD (wgA n st.1 p) [] ++ [p])) else (st.1 ++ [ClassCountsV [p] n], st.2 ++ [[p]])
noncomputable def wgN (n : Int) (P : List (List Int)) : Nat → List (List Int) × List (List (List Int))
  | 0 => ([], [])
  | i + 1 => wgStep n (wgN n P i) (P.getD i [])
open Classical in
noncomputable def WilfGroupsV (k n : Int) : List (List (List Int)) := if 1 ≤ k ∧ k ≤ 4 ∧ 0 ≤ n ∧ n ≤ 6 then (wgN n (permsV k.toNat) (permsV k.toNat).length).2 else []
theorem tot3_set {G : List (List (List Int))} {i : Nat} (h : i < G.length) (p : List Int) : tot3 (G.set i (G.getD i [] ++ [p])) = tot3 G + (1 + p.length) := by
  have h1 : G = G.take i ++ G.getD i [] :: G.drop (i + 1) := by rw [getD3 h]; simp
  rw [List.set_eq_take_append_cons_drop, if_pos h]
  conv => rhs; rw [h1]
  have e : ∀ (M : List (List Int)) (R : List (List (List Int))), tot3 (M :: R) = (M.length + tot M) + tot3 R := fun M R => by simp [tot3]
  rw [tot3_append, tot3_append, e, e, tot_append, List.length_append]
  simp [tot]; omega
theorem wgN_facts (n : Int) {P : List (List Int)} (hP : ∀ p ∈ P, p.length ≤ 8) : ∀ i, i ≤ P.length → (wgN n P i).1.length = (wgN n P i).2.length ∧ (wgN n P i).1.length ≤ i ∧ tot3 (wgN n P i).2 ≤ i * 9
  | 0, _ => by simp [wgN, tot3]
  | i + 1, hi => by
    obtain ⟨h1, h2, h3⟩ := wgN_facts n hP i (by omega)
    have hp := hP (P.getD i []) (by rw [getD_SS (by omega)]; exact List.getElem_mem _)
    rw [wgN, wgStep]
    split
    · rename_i hc
      refine ⟨by simp [h1], by simp; omega, ?_⟩
      show tot3 ((wgN n P i).2.set _ _) ≤ _
      rw [tot3_set (by omega)]; omega
    · refine ⟨by simp [h1], by simp; omega, ?_⟩
      show tot3 ((wgN n P i).2 ++ [[P.getD i []]]) ≤ _
      rw [tot3_append]
      have : tot3 [[P.getD i []]] = 1 + (P.getD i []).length := by simp [tot3, tot]
      omega
theorem wgN_rows (n : Int) (P : List (List Int)) : ∀ i, ∀ C ∈ (wgN n P i).1, C.length ≤ 7
  | 0, C, h => by simp [wgN] at h
  | i + 1, C, h => by
    rw [wgN, wgStep] at h
    split at h
    · exact wgN_rows n P i C h
    · rcases List.mem_append.1 h with h | h
      · exact wgN_rows n P i C h
      · simp at h; subst h; exact ClassCountsV_len _ _
theorem rowSS_one {w : World} {ρ r : Sl} {L : List Int} (h : Row w ρ [r.v]) (hr : RowI w r L) : RowSS w ρ [L] := by
  refine ⟨[r], h, rfl, fun i t M e1 e2 => ?_⟩
  cases i with
  | zero => simp at e1 e2; subst e1 e2; exact hr
  | succ i => simp at e1
/-- The state between two permutations. -/
structure WgS (w0 : World) (B : Nat) (n : Int) (P : List (List Int)) (out cnt all : Sl) (rp : List Sl) (i : Nat) (w : World) : Prop where
  below : Below B w0 w
  hB : B ≤ w.heap.size
  perms : OwnRows w B all rp P
  st : ∃ rc G, OwnRows w B cnt rc (wgN n P i).1 ∧ OwnS3 w B out G ∧ vals G = (wgN n P i).2 ∧ (∀ x, foot cnt rc x → ¬ foot3 out G x) ∧ (∀ x, foot cnt rc x → ¬ foot all rp x) ∧ (∀ x, foot2 out G x → ¬ foot all rp x) ∧
    (∀ x, leaf G x → ∃ j, j < i ∧ ∃ r, rp[j]? = some r ∧ r.blk = some x)
/-- The last step: the permutation joins its group. -/
theorem wg_join {w0 w : World} {B : Nat} {n : Int} {P : List (List Int)} {out cnt all : Sl} {rp : List Sl} {i a : Nat} {rc : List Sl} {C : List (List Int)} {G : List Grp} {g : Grp} (hb : Below B w0 w) (hB : B ≤ w.heap.size) (hP : OwnRows w B all rp P) (hC : OwnRows w B cnt rc C) (hO : OwnS3 w B out G) (hi : i < P.length)
    (d1 : ∀ x, foot cnt rc x → ¬ foot3 out G x) (d2 : ∀ x, foot cnt rc x → ¬ foot all rp x) (d3 : ∀ x, foot2 out G x → ¬ foot all rp x) (d4 : ∀ x, leaf G x → ∃ j, j < i ∧ ∃ r, rp[j]? = some r ∧ r.blk = some x)
    (hga : G[a]? = some g) (hgl : g.LL.length < 2^38) (e1 : C = (wgN n P (i + 1)).1) (e2 : (vals G).set a (g.LL ++ [P.getD i []]) = (wgN n P (i + 1)).2) {r ρ : Sl} (hr : rp[i]? = some r) (hρ : Row w ρ [r.v]) {K : World → Prop}
    (hk : ∀ w', WgS w0 B n P out cnt all rp (i + 1) w' → K w') : sem1 .sl PP (Builtin.append_ #[T_SSint, T_SSint] T_SSint #[g.s.v, ρ.v]) w fun t' w2 => idxK 1 out (a : Int) fun ad => storeC ad t'.v w2 K := by
  have hal : a < G.length := (List.getElem?_eq_some_iff.1 hga).1
  have hrm := List.mem_of_getElem? hr
  have hro := hP.at_ i r (P.getD i []) hr (by rw [getElem?_getD hi])
  refine hO.appendAt hB (i := (a : Int)) (by omega) (by omega) (by rw [Int.toNat_natCast]; exact hga) hro (fun x h1 h2 => ?_) hρ hgl fun w' t' hO' hkp hn2 hlf => hk w' ?_
  · rcases foot3_iff.1 h2 with h3 | h3
    · exact d3 x h3 (.inr ⟨r, hrm, h1⟩)
    · obtain ⟨j, hj, q, hq, hqb⟩ := d4 x h3
      exact hP.apt j i q r (by omega) hq hr x hqb h1
  rw [Int.toNat_natCast] at hO' hn2 hlf
  have hP' := hP.keepsF hkp fun x h1 h2 => d3 x h2 h1
  have hC' := hC.keepsF hkp fun x h1 h2 => d1 x h1 (foot3_iff.2 (.inl h2))
  refine ⟨hb.trans (hkp.below (fun x hx => (hO.footLt (foot3_iff.2 (.inl hx))).1) hB), Nat.le_trans hB hkp.size, hP', rc, _, by rw [← e1]; exact hC', hO', by rw [vals_set]; exact e2, fun x h1 h2 => ?_, d2, fun x h1 h2 => ?_, fun x h1 => ?_⟩
  · rcases foot3_iff.1 h2 with h3 | h3
    · rcases hn2 x h3 with h4 | h4
      · exact d1 x h1 (foot3_iff.2 (.inl h4))
      · have := (hC.footLt h1).2; omega
    · rcases hlf x h3 with h4 | h4
      · exact d1 x h1 (foot3_iff.2 (.inr h4))
      · exact d2 x h1 (.inr ⟨r, hrm, h4⟩)
  · rcases hn2 x h1 with h4 | h4
    · exact d3 x h4 h2
    · have := (hP.footLt h2).2; omega
  · rcases hlf x h1 with h4 | h4
    · obtain ⟨j, hj, q, hq⟩ := d4 x h4
      exact ⟨j, by omega, q, hq⟩
    · exact ⟨i, by omega, r, hr, h4⟩
end Go.Proofs.Ytmhgjfahgemblaa
