/- The laws' helpers over rows of rows: sizes and copies. -/
import Derived.Test.YtmhgjfahgemblaaCodeS
import Derived.Test.YtmhgjfahgemblaaLawSs
namespace Go.Proofs.Ytmhgjfahgemblaa
open Go Go.RowKit
set_option maxRecDepth 100000

def szI (n : Nat) (left : Int) : Int := if left - n < 0 then -1 else left - n
theorem c_szIntS {w : World} {a : Sl} {L : List Int} (ha : RowI w a L) (hL : L.length ≤ maxLen) {left : Int} (h0 : 0 ≤ left) (h1 : left < 2^40) : Pure F.laws_szIntS #[a.v, vI left] (vI (szI L.length left)) := by
  intro w1
  have han : a.n = L.length := by have := ha.n; simpa using this
  have hm : L.length ≤ 9223372036854775807 := by simp only [maxLen] at hL; omega
  refine laws_szIntS.calls a left ?_
  rw [laws_szIntS.E_s, han, w64_id (by omega) (by omega)]
  refine bif_dec (fun h => ?_) (fun h => ?_)
  · exact ⟨by rw [szI, if_pos h], rfl⟩
  · exact ⟨by rw [szI, if_neg h], rfl⟩
def szW (LL : List (List Int)) (left : Int) : Int := if (LL.length : Int) + tot LL ≤ left then left - ((LL.length : Int) + tot LL) else -1
theorem szW_ok {LL : List (List Int)} {left : Int} (h0 : 0 ≤ left) (h : ¬ szW LL left < 0) : (LL.length : Int) + tot LL ≤ left ∧ szW LL left = left - ((LL.length : Int) + tot LL) := by
  unfold szW at h ⊢
  split at h
  · rename_i h1; exact ⟨h1, by rw [if_pos h1]⟩
  · omega
theorem c_szIntSS {w : World} {a : Sl} {LL : List (List Int)} (ha : RowSS w a LL) (hL : LL.length ≤ maxLen) (hM : ∀ M ∈ LL, M.length ≤ maxLen) {left : Int} (h0 : 0 ≤ left) (h1 : left < 2^40) :
    Quiet F.laws_szIntSS #[a.v, vI left] w (vI (szW LL left)) := by
  intro w1 hd
  have han := ha.n
  have hm : LL.length ≤ 9223372036854775807 := by simp only [maxLen] at hL; omega
  refine laws_szIntSS.calls a left ?_
  rw [laws_szIntSS.E_s, han, w64_id (by omega) (by omega)]
  refine bif_dec (fun h => ?_) (fun h => ?_)
  · exact ⟨by rw [szW, if_neg (by omega)], Drew.refl _⟩
  refine laws_szIntSS.L5_rule _ _ _ _ _ (I := fun left' i w' => Drew w1 w' ∧ 0 ≤ i ∧ i ≤ LL.length ∧ 0 ≤ left' ∧ left' = left - LL.length - tot (LL.take i.toNat)) (μ := fun _ i _ => (LL.length - i).toNat)
    ⟨Drew.refl _, by omega, by omega, by omega, by simp [tot_nil]⟩ ?_
  rintro left' i w' ⟨hd2, h2, hi, h3, h4⟩
  have hh : w'.heap = w.heap := (hd.trans hd2).heap'
  rw [laws_szIntSS.B5_s]
  refine bif_dec (fun h5 => ?_) (fun h5 => ?_)
  · have hlt : i.toNat < LL.length := by omega
    refine RowSS.get (ha.heap hh) h2 (by omega) fun r hr => ?_
    have h6 := tot_take_succ hlt
    have h7 := tot_take_le LL (i.toNat + 1)
    refine Pure.call1 (s := .int .i64) (c_szIntS hr (by rw [getD_SS hlt]; exact hM _ (List.getElem_mem hlt)) h3 (by omega)) ?_
    refine bif_dec (fun h8 => ?_) (fun h8 => ?_)
    · rw [laws_szIntSS.R5_s]
      refine ⟨?_, hd2⟩
      rw [szW, if_neg]
      unfold szI at h8
      split at h8 <;> omega
    · have h9 : ¬ left' - (LL.getD i.toNat []).length < 0 := by
        intro h9; exact h8 (by rw [szI, if_pos h9]; omega)
      refine ⟨_, i + 1, by rw [w64_succ h2 (by omega)], ⟨hd2, by omega, by omega, ?_, ?_⟩, by omega⟩
      · rw [szI, if_neg h9]; omega
      · rw [szI, if_neg h9, show (i + 1).toNat = i.toNat + 1 by omega, h6]; omega
  · rw [laws_szIntSS.A5_0_s]
    have e : i.toNat = LL.length := by omega
    rw [e, List.take_length] at h4
    refine ⟨?_, hd2⟩
    rw [szW, if_pos (by omega)]
    congr 2; omega

theorem OwnRows.replicate {w B s n} (h : Own w B T_Sint s (List.replicate n Sl.nil.v)) : OwnRows w B s (List.replicate n Sl.nil) (List.replicate n []) := by
  refine ⟨by simpa using h, by simp, fun i r L e1 e2 => ?_, fun i j r t _ e1 e2 g hg => ?_⟩
  · rw [List.getElem?_replicate] at e1 e2
    split at e1
    · split at e2
      · simp only [Option.some.injEq] at e1 e2; subst e1 e2; exact Own.nil _ _ _
      · omega
    · cases e1
  · rw [List.getElem?_replicate] at e1
    split at e1
    · simp only [Option.some.injEq] at e1; subst e1; simp [Sl.blk, Sl.nil] at hg
    · cases e1
theorem c_toIntSS {w : World} {a : Sl} {LL : List (List Int)} (ha : RowSS w a LL) (hL : LL.length < 2^38) (ht : tot LL < 2^38) :
    Calls PP F.laws_toIntSS #[a.v] w fun e w' => ∃ s : Sl, e = .returned s.v ∧ OwnSS w' w.heap.size s LL ∧ Below w.heap.size w w' := by
  have han := ha.n
  refine laws_toIntSS.calls a ?_
  rw [laws_toIntSS.E_s]
  refine make_own oneSint (B := w.heap.size) (Nat.le_refl _) (by omega) (by omega) ?_
  intro s w1 hown hg _
  have hown := OwnRows.replicate hown
  refine laws_toIntSS.L3_rule _ _ _ _ _ (I := fun i w' => 0 ≤ i ∧ i ≤ LL.length ∧ (∃ rs, OwnRows w' w.heap.size s rs (LL.take i.toNat ++ List.replicate (LL.length - i.toNat) [])) ∧ Below w.heap.size w w') (μ := fun i _ => (LL.length - i).toNat)
    ⟨by omega, by omega, ⟨_, by simpa [han] using hown⟩, below_of_grow hg⟩ ?_
  rintro i w' ⟨h0, hi, ⟨rs, ho⟩, hb⟩
  rw [laws_toIntSS.B3_s]
  refine bif_dec (fun h3 => ?_) (fun h3 => ?_)
  · have hlt : i.toNat < LL.length := by omega
    refine RowSS.get (ha.grow hb) h0 (by omega) fun r hr => ?_
    have h40 := len_le_tot (List.getElem_mem hlt)
    rw [getD_SS hlt] at hr
    refine (c_toIntS hr (by omega)).mono ?_
    rintro e w2 ⟨t, rfl, ht2, hb2⟩
    refine ⟨t, rfl, ?_⟩
    have ho2 := ho.grow hb2
    have hlen := ho2.len
    have hb12 := hb.trans (hb2.mono hb.size)
    refine Own.put ho2.out h0 (by rw [List.length_map, hlen]; simp; omega) (v := t.v) ?_
    intro w3 ho3 hg3 hs3
    refine ⟨i + 1, by rw [w64_succ h0 (by omega)], ⟨by omega, by omega, ⟨rs.set i.toNat t, ?_⟩, hb12.grown hg3 hb12.size (fun g hg => (ho2.out.lt g hg).1)⟩, by omega⟩
    have := ho2.set (ht2.mono hb.size) (i := i.toNat) (fun j u hj hu => Apt.of_lt (fun g hg => (ho.lt (List.mem_of_getElem? hu) hg).2) (fun g hg => (ht2.lt g hg).1)) ho3 hg3
    rw [show (i + 1).toNat = i.toNat + 1 by omega, ← take_step LL [] hlt]
    exact this
  · rw [laws_toIntSS.A3_0_s]
    have : i.toNat = LL.length := by omega
    rw [this] at ho
    exact ⟨s, rfl, ⟨rs, by simpa using ho⟩, hb⟩
end Go.Proofs.Ytmhgjfahgemblaa
