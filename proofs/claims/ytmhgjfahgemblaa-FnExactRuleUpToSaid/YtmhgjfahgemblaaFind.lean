/- Occurrences of a pattern: the model's search and the program's. -/
import Derived.Test.YtmhgjfahgemblaaCodeFi
import Derived.Test.YtmhgjfahgemblaaClo
import Derived.Test.YtmhgjfahgemblaaSs
import Derived.Test.YtmhgjfahgemblaaFindMath
namespace Go.Proofs.Ytmhgjfahgemblaa
open Go Go.RowKit
set_option maxRecDepth 100000

theorem getD_snoc_lt {h : List Int} {x : Int} {k : Nat} (hk : k < h.length) : (h ++ [x]).getD k 0 = h.getD k 0 := by
  simp [List.getD_eq_getElem?_getD, List.getElem?_append_left hk]
theorem getD_snoc_eq (h : List Int) (x : Int) : (h ++ [x]).getD h.length 0 = x := by simp [List.getD_eq_getElem?_getD]
theorem Places.at_ {P h : List Int} (hh : Places P h) {k : Nat} (hk : k < h.length) : 1 ≤ h.getD k 0 ∧ h.getD k 0 ≤ P.length := by
  rw [getD_lt hk]; exact hh _ (List.getElem_mem hk)

theorem c_l7Fits {w : World} {p q pl : Sl} {P Q h : List Int} {x : Int} (hp : RowI w p P) (hq : RowI w q Q) (hpl : RowI w pl (h ++ [x])) (hP : P.length < 2^38) (hQ : h.length < Q.length) (hQ2 : Q.length < 2^38) (hh : Places P (h ++ [x])) :
    Quiet F.spec_l7Fits #[p.v, q.v, pl.v] w (.bool (fitsB P Q h x)) := by
  intro w1 hd
  have hpn : pl.n = h.length + 1 := by have := hpl.n; simpa using this
  have hx := hh x (by simp)
  refine spec_l7Fits.calls p q pl ?_
  rw [spec_l7Fits.E_s, hpn, w64_id (by omega) (by omega)]
  rw [show ((h.length + 1 : Nat) : Int) - 1 = (h.length : Int) by omega]
  refine spec_l7Fits.L3_rule _ _ _ _ _ _ _ (I := fun k w' => 0 ≤ k ∧ k ≤ h.length ∧ (∀ j, j < k.toNat → fitsAt P Q h x j = true) ∧ Drew w1 w') (μ := fun k _ => (h.length - k).toNat)
    ⟨by omega, by omega, fun j hj => by simp at hj, Drew.refl _⟩ ?_
  rintro k w' ⟨h0, hk, hall, hd2⟩
  have hhp : w'.heap = w.heap := (hd.trans hd2).heap'
  rw [spec_l7Fits.B3_s]
  refine bif_dec (fun h3 => ?_) (fun h3 => ?_)
  · have hlt : k.toNat < h.length := by omega
    have hat := Places.at_ (P := P) (h := h) (fun y hy => hh y (by simp [hy])) hlt
    refine RowI.get (hq.heap hhp) h0 (by omega) ?_
    refine RowI.get (hq.heap hhp) (by omega) (by omega) ?_
    refine RowI.get (hpl.heap hhp) h0 (by simp; omega) ?_
    rw [getD_snoc_lt hlt, w64_id (n := h.getD k.toNat 0 - 1) (by omega) (by omega)]
    refine RowI.get (hp.heap hhp) (by omega) (by omega) ?_
    refine RowI.get (hpl.heap hhp) (by omega) (by simp; omega) ?_
    rw [Int.toNat_natCast, getD_snoc_eq, w64_id (n := x - 1) (by omega) (by omega)]
    refine RowI.get (hp.heap hhp) (by omega) (by omega) ?_
    refine drew_intro fun w3 hd3 => ?_
    have e1 : fitsAt P Q h x k.toNat = (decide (Q.getD k.toNat 0 < Q.getD h.length 0) == decide (P.getD (h.getD k.toNat 0 - 1).toNat 0 < P.getD (x - 1).toNat 0)) := by
      rw [fitsAt, Bool.beq_comm]
    rw [← e1]
    refine bif_intro (fun h4 => ?_) (fun h4 => ?_)
    · rw [spec_l7Fits.R3_s]
      have : fitsB P Q h x = false := by
        cases hb : fitsB P Q h x
        · rfl
        · have := fitsB_iff.1 hb k.toNat hlt
          rw [this] at h4; simp at h4
      exact ⟨by rw [this], hd2.trans hd3⟩
    · refine ⟨k + 1, by rw [w64_succ h0 (by omega)], ⟨by omega, by omega, fun j hj => ?_, hd2.trans hd3⟩, by omega⟩
      by_cases e : j = k.toNat
      · rw [e]; simpa using h4
      · exact hall j (by omega)
  · rw [spec_l7Fits.A3_0_s]
    have : fitsB P Q h x = true := fitsB_iff.2 fun j hj => hall j (by omega)
    exact ⟨by rw [this], hd2⟩

theorem c_l7Find {w0 : World} {p q : Sl} {P Q : List Int} (hp : RowI w0 p P) (hq : RowI w0 q Q) (hP : P.length ≤ 8) (hQ : Q.length ≤ 8) : ∀ (m : Nat) (w : World) (hd out : Sl) (rs : List Sl) (h : List Int) (LL : List (List Int)),
    Below w0.heap.size w0 w → OwnRows w w0.heap.size out rs LL → OwnI w w0.heap.size hd h → (∀ t ∈ rs, Apt t hd) → h.length + m = Q.length → Places P h → LL.length + 8 ^ m ≤ 2^30 →
    Calls PP F.spec_l7Find #[p.v, q.v, hd.v, out.v] w fun e w' => ∃ s : Sl, e = .returned s.v ∧ OwnSS w' w0.heap.size s (LL ++ occN P Q m h) ∧ w.grownBy w' out.blk ∧ Next w out s
  | 0, w, hd, out, rs, h, LL, hb, ho, hh, hap, hl, hpl, hc => by
    have hdn : hd.n = h.length := by have := hh.n; simpa using this
    have hqn : q.n = Q.length := by have := hq.n; simpa using this
    refine spec_l7Find.calls p q hd out ?_
    rw [spec_l7Find.E_s]
    refine bif_t (by simp; omega) ?_
    refine append_sl ho hb.size hh hap (by omega) ?_
    intro s' w' h1 h2 h3
    exact ⟨s', rfl, ⟨_, h1⟩, h2, h3⟩
  | m + 1, w, hd, out, rs, h, LL, hb, ho, hh, hap, hl, hpl, hc => by
    have hdn : hd.n = h.length := by have := hh.n; simpa using this
    have hqn : q.n = Q.length := by have := hq.n; simpa using this
    have hpn : p.n = P.length := by have := hp.n; simpa using this
    have h0 := hpl.last
    have main : spec_l7Find.J6 std p q hd out (lastD h + 1) w (fun e w' => ∃ s : Sl, e = .returned s.v ∧ OwnSS w' w0.heap.size s (LL ++ occN P Q (m + 1) h) ∧ w.grownBy w' out.blk ∧ Next w out s) := by
      rw [spec_l7Find.J6_s]
      refine spec_l7Find.L7_rule _ _ _ _ _ _ _ (I := fun s x w' => lastD h + 1 ≤ x ∧ x ≤ P.length + 1 ∧ OwnSS w' w0.heap.size s (LL ++ (seqI (lastD h + 1) (x - (lastD h + 1)).toNat).flatMap fun x => if fitsB P Q h x then occN P Q m (h ++ [x]) else []) ∧ w.grownBy w' out.blk ∧ Next w out s) (μ := fun _ x _ => (P.length + 1 - x).toNat)
        ⟨by omega, by omega, by simpa [seqI] using ⟨rs, ho⟩, grownBy_refl _ _, fun g hg => .inl hg⟩ ?_
      rintro s x w' ⟨hx0, hx, hs, hg, hn⟩
      have hbw : Below w0.heap.size w0 w' := hb.grown hg hb.size (fun g hg => (ho.out.lt g hg).1)
      have hh' : OwnI w' w0.heap.size hd h := hh.kept hg (fun g hg' e => (ho.out.apt hh (by decide)) g e hg')
      rw [spec_l7Find.B7_s]
      refine bif_dec (fun h3 => ?_) (fun h3 => ?_)
      · rw [hpn] at h3
        obtain ⟨rs', hs⟩ := hs
        refine lit0 oneInt (B := w'.heap.size) (Nat.le_refl _) ?_
        intro t1 w1 ht1 hg1 _
        have hb1 := below_of_grow hg1
        refine append_row oneInt ht1 hb1.size (hh'.row.grow hb1) (fun v hv => by obtain ⟨y, _, rfl⟩ := List.mem_map.1 hv; exact One.int y) (by simp; omega) ?_
        intro t2 w2 ht2 hg2 _ _
        have ht2 : OwnI w2 w'.heap.size t2 h := by simpa [OwnI] using ht2
        have hb2 := hb1.grown hg2 hb1.size (fun g hg => (ht1.lt g hg).1)
        refine append_int ht2 hb2.size (by omega) ?_
        intro t3 w3 ht3 hg3 _
        have hb3 := hb2.grown hg3 hb2.size (fun g hg => (ht2.lt g hg).1)
        have hb03 : Below w0.heap.size w0 w3 := hbw.trans (hb3.mono hbw.size)
        have hpl2 : Places P (h ++ [x]) := hpl.snoc (by omega) h3
        refine Quiet.call1 (s := .bool) (c_l7Fits (hp.grow hb03) (hq.grow hb03) ht3.row (by omega) (by omega) (by omega) hpl2) ?_
        intro w4 hd4
        have hb4 : Below w'.heap.size w' w4 := hb3.trans (hd4.below _)
        have esq : ∀ f : Int → List (List Int), (seqI (lastD h + 1) (x + 1 - (lastD h + 1)).toNat).flatMap f = (seqI (lastD h + 1) (x - (lastD h + 1)).toNat).flatMap f ++ f x := fun f => by
          rw [show (x + 1 - (lastD h + 1)).toNat = (x - (lastD h + 1)).toNat + 1 by omega, seqI_succ, List.flatMap_append]
          simp only [List.flatMap_cons, List.flatMap_nil, List.append_nil]
          congr 2; omega
        have hcnt : ((seqI (lastD h + 1) (x - (lastD h + 1)).toNat).flatMap fun x => if fitsB P Q h x then occN P Q m (h ++ [x]) else []).length ≤ 7 * 8 ^ m := by
          refine Nat.le_trans (length_flatMap_le _ _ (8 ^ m) (fun y hy => ?_)) ?_
          · rw [mem_seqI] at hy
            split
            · exact Nat.le_trans (occN_length m (h ++ [y]) (hpl.snoc (by omega) (by omega))) (Nat.pow_le_pow_left hP m)
            · simp
          · rw [seqI_length]; exact Nat.mul_le_mul_right _ (by omega)
        have hpow : 8 ^ (m + 1) = 8 * 8 ^ m := by rw [Nat.pow_succ]; omega
        refine bif_intro (fun h5 => ?_) (fun h5 => ?_)
        · have hs4 := hs.grow hb4
          refine (c_l7Find hp hq hP hQ m w4 t3 s rs' (h ++ [x]) _ (hb03.trans (hd4.below _)) hs4 ((ht3.heap hd4.heap').mono hbw.size) (fun t ht => Apt.of_lt (fun g hg => (hs.lt ht hg).2) (fun g hg => (ht3.lt g hg).1)) (by simp; omega) hpl2 (by rw [List.length_append]; omega)).mono ?_
          rintro e w5 ⟨s5, rfl, hs5, hg5, hn5⟩
          refine ⟨s5, rfl, s5, x + 1, by rw [w64_id (by omega) (by omega)], ⟨by omega, by omega, ?_, ?_, ?_⟩, by omega⟩
          · rw [esq, if_pos h5, ← List.append_assoc]; exact hs5
          · refine ⟨hg5.os.trans (hb4.os.trans hg.os), hg5.tape.trans (hb4.tape.trans hg.tape), hg5.output.trans (hb4.output.trans hg.output), Nat.le_trans hg.size (Nat.le_trans hb4.size hg5.size), fun k hk hne => ?_⟩
            have hk' : k < w'.heap.size := Nat.lt_of_lt_of_le hk hg.size
            rw [hg5.block k (Nat.lt_of_lt_of_le hk' hb4.size) (fun e => by
              rcases hn k e.symm with h6 | h6
              · exact hne h6.symm
              · omega), hb4.block k hk', hg.block k hk hne]
          · intro g hg'
            rcases hn5 g hg' with h6 | h6
            · exact hn g h6
            · have := hg.size; have := hb4.size; exact .inr (by omega)
        · refine ⟨s, x + 1, by rw [w64_id (by omega) (by omega)], ⟨by omega, by omega, ?_, ?_, hn⟩, by omega⟩
          · rw [esq, if_neg (by simp [h5]), List.append_nil]; exact ⟨rs', hs.grow hb4⟩
          · refine ⟨hb4.os.trans hg.os, hb4.tape.trans hg.tape, hb4.output.trans hg.output, Nat.le_trans hg.size hb4.size, fun k hk hne => ?_⟩
            rw [hb4.block k (Nat.lt_of_lt_of_le hk hg.size), hg.block k hk hne]
      · rw [spec_l7Find.A7_0_s]
        rw [hpn] at h3
        have e : x = P.length + 1 := by omega
        subst e
        refine ⟨s, rfl, ?_, hg, hn⟩
        rw [occN, show ((P.length : Int) - lastD h).toNat = ((P.length : Int) + 1 - (lastD h + 1)).toNat by omega]
        exact hs
    refine spec_l7Find.calls p q hd out ?_
    rw [spec_l7Find.E_s]
    refine bif_f (by simp; omega) ?_
    refine bif_dec (fun h4 => ?_) (fun h4 => ?_)
    · rw [hdn, w64_id (by omega) (by omega)]
      refine RowI.get hh.row (by omega) (by omega) ?_
      rw [show ((h.length : Int) - 1).toNat = h.length - 1 by omega]
      show spec_l7Find.J6 std p q hd out (w64 (lastD h + 1)) w _
      rw [w64_id (by omega) (by omega)]
      exact main
    · have : h = [] := List.eq_nil_of_length_eq_zero (by omega)
      subst this
      exact main

theorem c_l7Has {w : World} {p q : Sl} {P Q : List Int} (hp : RowI w p P) (hq : RowI w q Q) (hP : P.length ≤ 8) (hQ : Q.length ≤ 8) :
    Calls PP F.spec_l7Has #[p.v, q.v] w fun e w' => e = .returned (.bool (hasP P Q)) ∧ Below w.heap.size w w' := by
  refine spec_l7Has.calls p q ?_
  rw [spec_l7Has.E_s]
  refine lit0 oneInt (B := w.heap.size) (Nat.le_refl _) ?_
  intro s w1 hs hg1 hc1
  refine lit0 oneSint (B := w.heap.size) (by have := hg1.size; omega) ?_
  intro t w2 ht hg2 hc2
  have hb1 := below_of_grow hg1
  have hb2 := hb1.grown hg2 hb1.size (by simp)
  have h8 : 8 ^ Q.length ≤ 8 ^ 8 := Nat.pow_le_pow_right (by omega) hQ
  refine (c_l7Find hp hq hP hQ Q.length w2 s t [] [] [] hb2 (OwnRows.nil ht) (hs.kept hg2 (by simp)) (fun t ht => by simp at ht) (by simp) (Places.nil P) (by simp only [List.length_nil]; omega)).mono ?_
  rintro e w3 ⟨u, rfl, hu, hg3, _⟩
  refine ⟨u, rfl, ?_, hb2.grown hg3 hb2.size (fun g hg => (ht.lt g hg).1)⟩
  have hn := hu.row.n
  rw [List.nil_append] at hn
  rw [hn]
  congr 2
  unfold hasP hasB
  cases occN P Q Q.length [] <;> simp <;> omega

theorem c_has {w0 : World} {p q : Sl} {P Q : List Int} (hp : RowI w0 p P) (hq : RowI w0 q Q) (hP : P.length < 2^37) (hQ : Q.length < 2^37) : ∀ (m : Nat) (w : World) (ch : Sl) (h : List Int),
    Below w0.heap.size w0 w → RowI w ch (h.map (· - 1)) → h.length + m = Q.length → Places P h →
    Calls PP F.impl_has #[p.v, q.v, ch.v] w fun e w' => e = .returned (.bool (hasB P Q m h)) ∧ Below w.heap.size w w'
  | 0, w, ch, h, hb, hh, hl, hpl => by
    have hdn : ch.n = h.length := by have := hh.n; simpa using this
    have hqn : q.n = Q.length := by have := hq.n; simpa using this
    refine impl_has.calls p q ch ?_
    rw [impl_has.E_s]
    refine bif_t (by simp; omega) ?_
    exact ⟨by rw [hasB_zero], Below.refl _ _⟩
  | m + 1, w, ch, h, hb, hh, hl, hpl => by
    have hdn : ch.n = h.length := by have := hh.n; simpa using this
    have hqn : q.n = Q.length := by have := hq.n; simpa using this
    have hpn : p.n = P.length := by have := hp.n; simpa using this
    have h0 := hpl.last
    have main : impl_has.J6 std p q ch (lastD h) w (fun e w' => e = .returned (.bool (hasB P Q (m + 1) h)) ∧ Below w.heap.size w w') := by
      rw [impl_has.J6_s]
      refine impl_has.L8_rule _ _ _ _ _ _ _ (I := fun i w' => lastD h ≤ i ∧ i ≤ P.length + 1 ∧ Below w.heap.size w w' ∧ ∀ x, lastD h < x → x ≤ i → x ≤ P.length → fitsB P Q h x = true → hasB P Q m (h ++ [x]) = false) (μ := fun i _ => (P.length + 2 - i).toNat)
        ⟨by omega, by omega, Below.refl _ _, fun x h1 h2 => by omega⟩ ?_
      rintro i w' ⟨hi0, hi, hbw, hall⟩
      have hb0 : Below w0.heap.size w0 w' := hb.trans (hbw.mono hb.size)
      have hh' := hh.grow hbw
      have elen : (List.map (fun x => x - 1) h).length = h.length := by simp
      rw [impl_has.B8_s, hpn, hqn, hdn]
      rw [w64_id (n := (Q.length : Int) - h.length) (by omega) (by omega), w64_id (n := (P.length : Int) - ((Q.length : Int) - h.length)) (by omega) (by omega)]
      refine bif_dec (fun h3 => ?_) (fun h3 => ?_)
      · have hx1 : 1 ≤ i + 1 := by omega
        refine impl_has.L12_rule _ _ _ _ _ _ _ _ _ _ _ (I := fun f k w2 => 0 ≤ k ∧ k ≤ h.length ∧ f = (List.range k.toNat).all (fitsAt P Q h (i + 1)) ∧ Drew w' w2) (μ := fun _ k _ => (h.length - k).toNat)
          ⟨by omega, by omega, by simp, Drew.refl _⟩ ?_
        rintro f k w2 ⟨hk0, hk, hf, hd⟩
        have hhp2 := hd.heap'
        rw [impl_has.B12_s]
        refine bif_dec (fun h4 => ?_) (fun h4 => ?_)
        · have hlt : k.toNat < h.length := by omega
          have hat := hpl.at_ hlt
          refine RowI.get (hh'.heap hhp2) hk0 (by rw [elen]; omega) ?_
          have e0 : (List.map (fun x => x - 1) h).getD k.toNat 0 = h.getD k.toNat 0 - 1 := by
            rw [getD_lt (by rw [elen]; exact hlt), getD_lt hlt, List.getElem_map]
          rw [e0]
          have hs : (List.range (k + 1).toNat).all (fitsAt P Q h (i + 1)) = (f && fitsAt P Q h (i + 1) k.toNat) := by
            rw [show (k + 1).toNat = k.toNat + 1 by omega, List.range_succ, List.all_append, ← hf]; simp
          refine bif_intro (fun h5 => ?_) (fun h5 => ?_)
          · refine RowI.get ((hp.grow hb0).heap hhp2) (by omega) (by omega) ?_
            refine RowI.get ((hp.grow hb0).heap hhp2) (by omega) (by omega) ?_
            refine RowI.get ((hq.grow hb0).heap hhp2) hk0 (by omega) ?_
            refine RowI.get ((hq.grow hb0).heap hhp2) (by omega) (by omega) ?_
            refine drew_intro fun w3 hd3 => ?_
            refine ⟨_, k + 1, by rw [w64_succ hk0 (by omega)], ⟨by omega, by omega, ?_, hd.trans hd3⟩, by omega⟩
            rw [hs, h5, Bool.true_and, fitsAt, Int.toNat_natCast, show i + 1 - 1 = i by omega]
          · refine drew_intro fun w3 hd3 => ?_
            refine ⟨_, k + 1, by rw [w64_succ hk0 (by omega)], ⟨by omega, by omega, ?_, hd.trans hd3⟩, by omega⟩
            rw [hs, h5, Bool.false_and]
        · rw [impl_has.A12_2_s]
          have ek : k.toNat = h.length := by omega
          rw [ek] at hf
          have hf : f = fitsB P Q h (i + 1) := hf
          have hbw2 := hbw.trans (hd.below _)
          refine bif_intro (fun h5 => ?_) (fun h5 => ?_)
          · refine (c_Clone (hh'.heap hhp2) (by rw [elen]; omega)).mono ?_
            rintro e w3 ⟨s, rfl, hs, hb3⟩
            refine ⟨s, rfl, ?_⟩
            refine append_int hs hb3.size (by rw [elen]; omega) ?_
            intro t w4 ht hg4 _
            have hb4 : Below w2.heap.size w2 w4 := hb3.grown hg4 hb3.size (fun g hg => (hs.lt g hg).1)
            have hb04 : Below w0.heap.size w0 w4 := (hb0.trans (hd.below _)).trans (hb4.mono (by have := hb0.size; have := hhp2; rw [hhp2]; exact this |> fun _ => hb0.size))
            have hpl2 : Places P (h ++ [i + 1]) := hpl.snoc (by omega) (by omega)
            have ht' : RowI w4 t ((h ++ [i + 1]).map (· - 1)) := by
              have := ht.row
              rw [List.map_append, List.map_cons, List.map_nil, show i + 1 - 1 = i by omega]
              exact this
            refine (c_has hp hq hP hQ m w4 t (h ++ [i + 1]) hb04 ht' (by simp; omega) hpl2).mono ?_
            rintro e w5 ⟨rfl, hb5⟩
            refine ⟨_, rfl, ?_⟩
            have hb15 : Below w.heap.size w w5 := (hbw2.trans (hb4.mono hbw2.size)).trans (hb5.mono (Nat.le_trans hbw2.size hb4.size))
            refine bif_intro (fun h6 => ?_) (fun h6 => ?_)
            · rw [impl_has.R8_s]
              have : hasB P Q (m + 1) h = true := hasB_succ.2 ⟨i + 1, by omega, by omega, by rw [← hf]; exact h5, h6⟩
              exact ⟨by rw [this], hb15⟩
            · refine ⟨i + 1, by rw [w64_succ (by omega) (by omega)], ⟨by omega, by omega, hb15, fun x h7 h8 h9 h10 => ?_⟩, by omega⟩
              by_cases e : x = i + 1
              · rw [e]; exact h6
              · exact hall x h7 (by omega) h9 h10
          · refine ⟨i + 1, by rw [w64_succ (by omega) (by omega)], ⟨by omega, by omega, hbw2, fun x h7 h8 h9 h10 => ?_⟩, by omega⟩
            by_cases e : x = i + 1
            · rw [e, ← hf, h5] at h10; cases h10
            · exact hall x h7 (by omega) h9 h10
      · rw [impl_has.A8_0_s]
        have : hasB P Q (m + 1) h = false := by
          cases hb2 : hasB P Q (m + 1) h
          · rfl
          · obtain ⟨x, h7, h8, h9, h10⟩ := hasB_succ.1 hb2
            have h11 := hasB_room m (h ++ [x]) (hpl.snoc (by omega) h8) h10
            rw [lastD_snoc] at h11
            rw [hall x h7 (by omega) h8 h9] at h10
            cases h10
        exact ⟨by rw [this], hbw⟩
    refine impl_has.calls p q ch ?_
    rw [impl_has.E_s]
    refine bif_f (by simp; omega) ?_
    refine bif_dec (fun h4 => ?_) (fun h4 => ?_)
    · rw [hdn, w64_id (by omega) (by omega)]
      refine RowI.get hh (by omega) (by simp; omega) ?_
      have e0 : (List.map (fun x => x - 1) h).getD ((h.length : Int) - 1).toNat 0 = lastD h - 1 := by
        rw [getD_lt (by simp; omega), List.getElem_map, lastD, getD_lt (by omega)]
        congr 2; omega
      rw [e0, show lastD h - 1 + 1 = lastD h by omega, w64_id (by omega) (by omega)]
      exact main
    · have : h = [] := List.eq_nil_of_length_eq_zero (by omega)
      subst this
      exact main
theorem c_has_nil {w : World} {p q : Sl} {P Q : List Int} (hp : RowI w p P) (hq : RowI w q Q) (hP : P.length < 2^37) (hQ : Q.length < 2^37) :
    Calls PP F.impl_has #[p.v, q.v, Sl.nil.v] w fun e w' => e = .returned (.bool (hasP P Q)) ∧ Below w.heap.size w w' :=
  c_has hp hq hP hQ Q.length w Sl.nil [] (Below.refl _ _) ⟨rfl, Nat.le_refl _, fun i v hv => by simp at hv⟩ (by simp) (Places.nil P)
end Go.Proofs.Ytmhgjfahgemblaa
