/- The length of a longest ascending part: the model text's. -/
import Derived.Test.YtmhgjfahgemblaaCodeL20
import Derived.Test.YtmhgjfahgemblaaLisE
import Derived.Test.YtmhgjfahgemblaaL1
import Derived.Test.YtmhgjfahgemblaaPerm
namespace Go.Proofs.Ytmhgjfahgemblaa
open Go Go.RowKit
set_option maxRecDepth 100000

theorem c_l1Max (a b : Int) : Pure F.spec_l1Max #[vI a, vI b] (vI (max a b)) := by
  intro w
  refine spec_l1Max.calls a b ?_
  rw [spec_l1Max.E_s]
  refine bif_dec (fun h => ?_) (fun h => ?_)
  · exact ⟨by rw [Int.max_eq_left (by omega)], rfl⟩
  · exact ⟨by rw [Int.max_eq_right (by omega)], rfl⟩

/-- The length of a longest ascending pattern. -/
def luV (L : List Int) : Int := mx (enT L L.length) L.length
theorem PermOk.ne {L : List Int} (h : PermOk L) : ∀ i j, i < j → j < L.length → L.getD i 0 ≠ L.getD j 0 := fun i j hij hj => (h j hj).2.2 i hij

theorem mx_congr {f g : Nat → Int} {n : Nat} (h : ∀ j, j < n → f j = g j) : mx f n = mx g n := by
  induction n with
  | zero => rfl
  | succ n ih => simp only [mx]; rw [ih (fun j hj => h j (by omega)), h n (by omega)]

theorem enT_stable (L : List Int) : ∀ d j, j < d → ∀ e, d ≤ e → enT L e j = enT L d j := by
  intro d j hj e he
  induction e with
  | zero => omega
  | succ e ih =>
    by_cases h : d = e + 1
    · rw [h]
    · rw [enT, if_neg (by omega), ih (by omega)]


theorem c_l20Up {w : World} {a : Sl} {L : List Int} (ha : RowI w a L) (hL : L.length < 2^38) :
    Calls PP F.spec_l20Up #[a.v] w fun e w' => e = .returned (vI (luV L)) ∧ Below w.heap.size w w' := by
  have han : a.n = L.length := by have := ha.n; simpa using this
  refine spec_l20Up.calls a ?_
  rw [spec_l20Up.E_s]
  refine lit0 oneInt (B := w.heap.size) (Nat.le_refl _) ?_
  intro t0 w1 hown hg _
  refine spec_l20Up.L4_rule _ _ _ _ _ _ (I := fun be t k w' => 0 ≤ k ∧ k ≤ L.length ∧ be = mx (enT L L.length) k.toNat ∧ OwnI w' w.heap.size t (tab k.toNat (enT L k.toNat)) ∧ Below w.heap.size w w') (μ := fun _ _ k _ => (L.length - k).toNat)
    ⟨by omega, by omega, rfl, hown, below_of_grow hg⟩ ?_
  rintro be t k w' ⟨h0, hk, hbe, ht, hb⟩
  rw [spec_l20Up.B4_s]
  refine bif_dec (fun h3 => ?_) (fun h3 => ?_)
  · refine spec_l20Up.L8_rule _ _ _ _ _ _ _ _ (I := fun n i w2 => 0 ≤ i ∧ i ≤ k ∧ n = enI L (enT L k.toNat) k.toNat i.toNat ∧ Drew w' w2) (μ := fun _ i _ => (k - i).toNat) ⟨by omega, by omega, rfl, Drew.refl _⟩ ?_
    rintro n i w2 ⟨hi0, hi, hn, hd⟩
    have hb2 : Below w.heap.size w w2 := hb.trans (hd.below _)
    have ht2 : OwnI w2 w.heap.size t (tab k.toNat (enT L k.toNat)) := ht.heap hd.heap'
    rw [spec_l20Up.B8_s]
    refine bif_dec (fun h4 => ?_) (fun h4 => ?_)
    · refine RowI.get (ha.grow hb2) hi0 (by omega) ?_
      refine RowI.get (ha.grow hb2) h0 (by omega) ?_
      refine drew_intro fun w3 hd3 => ?_
      have es : (i + 1).toNat = i.toNat + 1 := by omega
      refine bif_dec (fun h5 => ?_) (fun h5 => ?_)
      · refine RowI.get (ht2.heap hd3.heap').row hi0 (by rw [tab_length]; omega) ?_
        rw [tab_getD _ (by omega)]
        refine Pure.pcall1 (s := .int .i64) (c_l1Max _ _) ?_
        refine ⟨_, i + 1, by rw [w64_succ hi0 (by omega)], ⟨by omega, by omega, ?_, hd.trans hd3⟩, by omega⟩
        rw [es, enI, if_pos h5, hn]
      · refine ⟨n, i + 1, by rw [w64_succ hi0 (by omega)], ⟨by omega, by omega, ?_, hd.trans hd3⟩, by omega⟩
        rw [es, enI, if_neg h5, hn]
    · rw [spec_l20Up.A8_2_s]
      have ei : i.toNat = k.toNat := by omega
      rw [ei] at hn
      refine append_int ht2 hb2.size (by rw [tab_length]; omega) ?_
      intro t' w3 ht3 hg3 _
      refine Pure.pcall1 (s := .int .i64) (c_l1Max _ _) ?_
      have es : (k + 1).toNat = k.toNat + 1 := by omega
      have e1 : enT L (k.toNat + 1) k.toNat = n := by rw [enT, if_pos rfl, hn]
      refine ⟨_, t', k + 1, by rw [w64_succ h0 (by omega)], ⟨by omega, by omega, ?_, ?_, hb2.grown hg3 hb2.size (fun g hg => (ht2.lt g hg).1)⟩, by omega⟩
      · rw [es, mx, ← hbe, enT_stable L (k.toNat + 1) k.toNat (by omega) L.length (by omega), e1]
      · rw [es, tab_succ, e1, tab_congr (g := enT L k.toNat) (fun j hj => enT_stable L k.toNat j hj (k.toNat + 1) (by omega))]
        exact ht3
  · rw [spec_l20Up.A4_0_s]
    have e : k.toNat = L.length := by omega
    rw [e] at hbe
    exact ⟨by rw [hbe, luV], hb⟩

end Go.Proofs.Ytmhgjfahgemblaa
