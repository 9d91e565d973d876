/- PermOfTableaux: the model's text. -/
import Derived.Test.YtfainpmcdfckkaaCodePt
import Derived.Test.YtfainpmcdfckkaaCopy
import Derived.Test.YtfainpmcdfckkaaPair
import Derived.Test.YtfainpmcdfckkaaPotMath
import Derived.Test.YtfainpmcdfckkaaTab2
import Derived.Test.YtfainpmcdfckkaaSame
namespace Go.Proofs.Ytfainpmcdfckkaa
open Go Go.RowKit
set_option maxRecDepth 100000

theorem IsTab.wtab {T : List (List Int)} (h : IsTab T) : WTab T := by
  refine ⟨fun r hr => ?_, fun r hr => ⟨?_, fun j hj => ?_⟩⟩
  · refine Inc.of_getD fun i j hij hj => ?_
    obtain ⟨d, rfl⟩ : ∃ d, j = i + 1 + d := ⟨j - (i + 1), by omega⟩
    induction d with
    | zero => exact (h.strict hr hj).1 (by omega)
    | succ d ih =>
      have h1 := ih (by omega) (by omega)
      have h2 := (h.strict hr hj).1 (by omega)
      rw [show i + 1 + (d + 1) - 1 = i + 1 + d by omega] at h2
      have h2' : (T.getD r []).getD (i + 1 + d) 0 < (T.getD r []).getD (i + 1 + (d + 1)) 0 := h2
      omega
  · have := h.form.step (i := r + 1) hr (by omega)
    exact this
  · have := (h.strict (i := r + 1) hr hj).2 (by omega)
    exact this
theorem PotS.start {a b : List (List Int)} (ha : IsTab a) (hb : IsTab b) (he : lens a = lens b) : PotS b (tot b) a b := by
  have hl : a.length = b.length := by have := congrArg List.length he; simpa [lens_length] using this
  refine ⟨ha.wtab, ha.perm.nodup, hb.wtab, ?_, hl, rfl, fun r => ?_, fun r => List.prefix_refl _⟩
  · have h1 := permOk_iff.1 hb.perm.2
    refine perm_of_nodup h1.1 (fun x hx => ?_) (flatten_length b)
    have := h1.2 x hx
    rw [flatten_length] at this
    exact this
  · have := congrArg (fun l => l.getD r 0) he
    simp only [lens_getD] at this
    omega
open Classical in
noncomputable def PermOfTableauxV (a b : List (List Int)) : List Int := if IsTab a ∧ IsTab b ∧ lens a = lens b then popT b (tot b) a else []
open Classical in
noncomputable def PermOfTableauxV1 (a b : List (List Int)) : Bool := decide (IsTab a ∧ IsTab b ∧ lens a = lens b)
theorem c_l19Row {w : World} {a : Sl} {LL : List (List Int)} (ha : RowSS w a LL) (hL : LL.length < 2^38) (ht : tot LL < 2^38) (n : Int) :
    Calls PP F.spec_l19Row #[a.v, vI n] w fun e w' => e = .returned (vI (rowOf LL n)) ∧ Below w.heap.size w w' := by
  have han := ha.n
  refine spec_l19Row.calls a n ?_
  rw [spec_l19Row.E_s]
  refine spec_l19Row.L2_rule _ _ _ _ _ (I := fun k w' => 0 ≤ k ∧ k ≤ LL.length ∧ (∀ j (hj : j < LL.length), j < k.toNat → LL[j].contains n = false) ∧ Below w.heap.size w w') (μ := fun k _ => (LL.length - k).toNat) ⟨by omega, by omega, fun j _ hj => by simp at hj, Below.refl _ _⟩ ?_
  rintro k w2 ⟨h0, hk, hall, hb⟩
  rw [spec_l19Row.B2_s, han]
  refine bif_dec (fun h3 => ?_) (fun h3 => ?_)
  · have hlt : k.toNat < LL.length := by omega
    have h40 := len_le_tot (List.getElem_mem hlt)
    refine RowSS.get (ha.grow hb) h0 (by omega) fun r hr => ?_
    rw [getD_SS hlt] at hr
    refine Quiet.call1 (s := .bool) (c_l2Has hr (by omega) n) ?_
    intro w3 hd3
    have hb3 := hb.trans (hd3.below _)
    refine bif_intro (fun h4 => ?_) (fun h4 => ?_)
    · rw [spec_l19Row.R2_s]
      refine ⟨?_, hb3⟩
      have hf : LL.findIdx (fun R => R.contains n) = k.toNat := by
        rw [List.findIdx_eq hlt]
        exact ⟨by simpa using h4, fun j hj => hall j (by omega) hj⟩
      rw [rowOf, hf, if_pos hlt]
      congr 2; omega
    · refine ⟨k + 1, by rw [w64_succ h0 (by omega)], ⟨by omega, by omega, fun j hj1 hj => ?_, hb3⟩, by omega⟩
      by_cases e : j = k.toNat
      · subst e; simpa using h4
      · exact hall j hj1 (by omega)
  · rw [spec_l19Row.A2_0_s]
    refine ⟨?_, hb⟩
    have : ¬ LL.findIdx (fun R => R.contains n) < LL.length := fun hh => by
      have h5 := List.findIdx_getElem (w := hh)
      rw [hall _ hh (by omega)] at h5
      cases h5
    rw [rowOf, if_neg this]; rfl
theorem c_l19Take {w : World} {B : Nat} {t : Sl} {rs : List Sl} {T : List (List Int)} (h : OwnRows w B t rs T) (hB : B ≤ w.heap.size) (hT : T.length < 2^38) (hR : ∀ r, (T.getD r []).length < 2^38) {r : Nat} (hr : r < T.length) (h0 : 0 < (T.getD r []).length)
    (hq : BQ (T.set r ((T.getD r []).take ((T.getD r []).length - 1))) ((T.getD r []).getD ((T.getD r []).length - 1) 0) r) :
    Calls PP F.spec_l19Take #[t.v, vI r] w fun e w' => e = .returned (vI (takeAt T r).2) ∧ ∃ rs', OwnRows w' B t rs' (takeAt T r).1 ∧ Stp w w' (foot t rs) (foot t rs') := by
  have hRr := hR r
  refine spec_l19Take.calls t r ?_
  rw [spec_l19Take.E_s]
  obtain ⟨ρ, hρi, hρ⟩ := h.get hr
  have hρn : ρ.n = (T.getD r []).length := by have := hρ.n; simpa using this
  have hm := List.mem_of_getElem? hρi
  have ld : ∀ {K : Sl → Prop}, K ρ → idxK 1 t (r : Int) fun a => load1 .sl a w K := fun {K} hk => Row.get (sh := .sl) (r := ρ) h.out.row (by omega) (by rw [List.getElem?_map, Int.toNat_natCast, hρi]; rfl) hk
  refine ld ?_
  refine ld ?_
  rw [hρn, w64_id (n := ((T.getD r []).length : Int) - 1) (by omega) (by omega)]
  have elast : (((T.getD r []).length : Int) - 1).toNat = (T.getD r []).length - 1 := by omega
  refine RowI.get hρ.row (by omega) (by omega) ?_
  rw [elast]
  refine ld ?_
  refine Own.pop hρ (by omega) (by rw [List.length_map]; omega) fun s hs hblk => ?_
  rw [elast, ← List.map_take] at hs
  refine OwnRows.storeK (S := fun _ => False) h (by omega) (by omega) (t := ρ) (by rw [Int.toNat_natCast]; exact hρi) (Keeps.refl _ _) (fun _ _ hh => hh.elim) hs (fun g hg => .inl (by rw [← hblk]; exact hg)) fun w1 h1 hg1 st1 => ?_
  rw [Int.toNat_natCast] at h1 st1
  have hB1 : B ≤ w1.heap.size := Nat.le_trans hB st1.keeps.size
  have st1' : Stp w w1 (foot t rs) (foot t (rs.set r s)) := ⟨st1.keeps.mono fun k e => e.elim False.elim id, fun g hg => (st1.next g hg).imp (fun e => e.elim False.elim id) id⟩
  rw [w64_id (n := (r : Int) - 1) (by omega) (by omega)]
  refine spec_l19Take.L5_rule _ _ _ _ _ (I := fun n q w' => -1 ≤ q ∧ q < r ∧ B ≤ w'.heap.size ∧ ∃ T1, OwnRows w' B t (rs.set r s) T1 ∧ T1.length = T.length ∧ (∀ i, (T1.getD i []).length < 2^38) ∧ BQ T1 n (q + 1).toNat ∧ bump T1 n (q + 1).toNat = takeAt T r ∧ Stp w w' (foot t rs) (foot t (rs.set r s)))
    (μ := fun _ q _ => (q + 1).toNat) ⟨by omega, by omega, hB1, _, h1, by rw [List.length_set], fun i => ?_, by rw [show ((r : Int) - 1 + 1).toNat = r by omega]; exact hq, by rw [show ((r : Int) - 1 + 1).toNat = r by omega]; rfl, st1'⟩ ?_
  · rw [getD_setR]
    split
    · rw [List.length_take]; omega
    · exact hR i
  rintro n q w2 ⟨hq0, hqr, hB2, T1, ho, hl1, hR1, hbq, heq, st⟩
  rw [spec_l19Take.B5_s]
  refine bif_dec (fun h3 => ?_) (fun h3 => ?_)
  · have hqs : (q + 1).toNat = q.toNat + 1 := by omega
    rw [hqs] at hbq heq
    obtain ⟨a1, a2, a3, a4⟩ := hbq.at_
    have hRq := hR1 q.toNat
    refine ho.load h3 (by omega) fun ρ2 hρ2 ho2 => ?_
    have hρ2n : ρ2.n = (T1.getD q.toNat []).length := by have := ho2.n; simpa using this
    rw [hρ2n, w64_id (n := ((T1.getD q.toNat []).length : Int) - 1) (by omega) (by omega)]
    refine spec_l19Take.L8_rule _ _ _ _ _ _ (I := fun c w' => w' = w2 ∧ 0 ≤ c ∧ c < (T1.getD q.toNat []).length ∧ dn (T1.getD q.toNat []) n c.toNat = dn (T1.getD q.toNat []) n ((T1.getD q.toNat []).length - 1)) (μ := fun c _ => c.toNat)
      ⟨rfl, by omega, by omega, by rw [show (((T1.getD q.toNat []).length : Int) - 1).toNat = (T1.getD q.toNat []).length - 1 by omega]⟩ ?_
    rintro c w3 ⟨rfl, hc0, hcl, hcd⟩
    have hdle := dn_le (T1.getD q.toNat []) n c.toNat
    rw [spec_l19Take.B8_s]
    refine ho.load h3 (by omega) fun ρ3 _ ho3 => ?_
    refine RowI.get ho3.row hc0 (by omega) ?_
    refine bif_dec (fun h4 => ?_) (fun h4 => ?_)
    · have hc1 : c.toNat ≠ 0 := by
        intro e
        rw [e] at hcd h4
        rw [← hcd, dn] at a4
        omega
      refine ⟨c - 1, by rw [w64_id (by omega) (by omega)], ⟨rfl, by omega, by omega, ?_⟩, by omega⟩
      rw [← hcd]
      obtain ⟨d, hd⟩ : ∃ d, c.toNat = d + 1 := ⟨c.toNat - 1, by omega⟩
      rw [hd] at h4 ⊢
      rw [show (c - 1).toNat = d by omega, dn, if_pos h4]
    · have hcd' : c.toNat = dn (T1.getD q.toNat []) n ((T1.getD q.toNat []).length - 1) := by
        rw [← hcd]
        rcases Nat.eq_zero_or_pos c.toNat with e | e
        · rw [e]; rfl
        · obtain ⟨d, hd⟩ : ∃ d, c.toNat = d + 1 := ⟨c.toNat - 1, by omega⟩
          rw [hd] at h4 ⊢
          rw [dn, if_neg h4]
      rw [spec_l19Take.A8_2_s]
      refine ho.load h3 (by omega) fun ρ4 _ ho4 => ?_
      refine RowI.get ho4.row hc0 (by omega) ?_
      refine ho.setAtF h3 (by omega) hc0 (by omega) fun w4 ho5 hst hz => ?_
      rw [hcd'] at ho5 ⊢
      refine ⟨_, q - 1, by rw [w64_id (by omega) (by omega)], ⟨by omega, by omega, by omega, _, ho5, by rw [List.length_set]; exact hl1, fun i => ?_, by rw [show (q - 1 + 1).toNat = q.toNat by omega]; exact hbq.step, by rw [show (q - 1 + 1).toNat = q.toNat by omega]; rw [← heq, bump], st.trans hst⟩, by omega⟩
      rw [getD_setR]
      split
      · rw [List.length_set]; exact hRq
      · exact hR1 i
  · rw [spec_l19Take.A5_0_s]
    rw [show (q + 1).toNat = 0 by omega, bump] at heq
    rw [← heq]
    exact ⟨rfl, _, ho, st⟩
open Classical in
theorem c_specPermOfTableauxO {w : World} {a b : Sl} {A C : List (List Int)} (ha : RowSS w a A) (hA : A.length < 2^38) (tA : tot A < 2^38) (hb : RowSS w b C) (hC : C.length < 2^38) (tC : tot C < 2^38) :
    Calls PP F.spec_PermOfTableaux #[a.v, b.v] w fun e w' => ∃ s : Sl, e = .returned (.tuple #[s.v, .bool (PermOfTableauxV1 A C)]) ∧ OwnI w' w.heap.size s (PermOfTableauxV A C) ∧ Below w.heap.size w w' := by
  refine spec_PermOfTableaux.calls a b ?_
  rw [spec_PermOfTableaux.E_s]
  have no : ∀ (w1 : World), Below w.heap.size w w1 → ¬ (IsTab A ∧ IsTab C ∧ lens A = lens C) → sem1 .sl PP (Instr.buildSlice T_Sint 0 #[]) w1 fun ρ w2 => ∃ s : Sl, Ending.returned (.tuple #[ρ.v, .bool false]) = .returned (.tuple #[s.v, .bool (PermOfTableauxV1 A C)]) ∧ OwnI w2 w.heap.size s (PermOfTableauxV A C) ∧ Below w.heap.size w w2 := by
    intro w1 hb1 hn
    refine lit0 oneInt hb1.size ?_
    intro s w2 hs hg _
    rw [PermOfTableauxV, PermOfTableauxV1, if_neg hn, decide_eq_false hn]
    exact ⟨s, rfl, by simpa [OwnI] using hs, hb1.trans ((below_of_grow hg).mono hb1.size)⟩
  refine (c_specIsTableau ha hA tA).mono ?_
  rintro e w1 ⟨rfl, hb1⟩
  refine ⟨_, rfl, ?_⟩
  refine bif_intro (fun h => ?_) (fun h => ?_)
  · exact no w1 hb1 fun hh => by simp [IsTableauV, hh.1] at h
  have hTA : IsTab A := by simpa [IsTableauV] using h
  refine (c_specIsTableau (hb.grow hb1) hC tC).mono ?_
  rintro e w2 ⟨rfl, hb2⟩
  refine ⟨_, rfl, ?_⟩
  have hb02 := hb1.trans (hb2.mono hb1.size)
  refine bif_intro (fun h => ?_) (fun h => ?_)
  · exact no w2 hb02 fun hh => by simp [IsTableauV, hh.2.1] at h
  have hTC : IsTab C := by simpa [IsTableauV] using h
  refine (c_l19Lengths (ha.grow hb02) hA tA).mono ?_
  rintro e w3 ⟨s3, rfl, hs3, hb3⟩
  refine ⟨s3, rfl, ?_⟩
  have hb03 := hb02.trans (hb3.mono hb02.size)
  refine (c_l19Lengths (hb.grow hb03) hC tC).mono ?_
  rintro e w4 ⟨s4, rfl, hs4, hb4⟩
  refine ⟨s4, rfl, ?_⟩
  have hb04 := hb03.trans (hb4.mono hb03.size)
  refine Quiet.call1 (s := .bool) (c_l2Same (hs3.row.grow hb4) hs4.row (by rw [lens_length]; omega)) ?_
  intro w5 hd5
  have hb05 := hb04.trans (hd5.below _)
  refine bif_intro (fun h => ?_) (fun h => ?_)
  · exact no w5 hb05 fun hh => by simp [hh.2.2] at h
  have hE : lens A = lens C := by simpa using h
  rw [PermOfTableauxV, PermOfTableauxV1, if_pos ⟨hTA, hTC, hE⟩, decide_eq_true (show IsTab A ∧ IsTab C ∧ lens A = lens C from ⟨hTA, hTC, hE⟩)]
  have hn8 := hTC.form.count
  have ht8 := hTC.form.tot
  refine (c_l2Copy (ha.grow hb05) hA tA).mono ?_
  rintro e w6 ⟨t, rt, rfl, ht, hb6⟩
  refine ⟨t, rfl, ?_⟩
  have hb06 := hb05.trans (hb6.mono hb05.size)
  have hbn := hb.n
  refine spec_PermOfTableaux.L6_rule _ _ _ _ _ _ (I := fun z r w' => w' = w6 ∧ 0 ≤ r ∧ r ≤ C.length ∧ z = (tot (C.take r.toNat) : Int)) (μ := fun _ r _ => (C.length - r).toNat) ⟨rfl, by omega, by omega, by simp [tot_nil]⟩ ?_
  rintro z r w7 ⟨rfl, hr0, hr, rfl⟩
  rw [spec_PermOfTableaux.B6_s, hbn]
  refine bif_dec (fun h3 => ?_) (fun h3 => ?_)
  · have hlt : r.toNat < C.length := by omega
    refine RowSS.get (hb.grow hb06) hr0 (by omega) fun ρ hρ => ?_
    have hρn : ρ.n = (C.getD r.toNat []).length := by have := hρ.n; simpa using this
    have h4 := tot_take_succ hlt
    have h5 := tot_take_le C (r.toNat + 1)
    refine ⟨_, r + 1, by rw [w64_succ hr0 (by omega), w64_id (by omega) (by omega)], ⟨rfl, by omega, by omega, ?_⟩, by omega⟩
    rw [show (r + 1).toNat = r.toNat + 1 by omega, h4, hρn]; omega
  rw [spec_PermOfTableaux.A6_0_s]
  rw [show r.toNat = C.length by omega, List.take_length]
  refine make_own oneInt (B := w.heap.size) hb06.size (by omega) (by omega) ?_
  intro o w8 ho hg8 hn8'
  rw [Int.toNat_natCast] at ho
  have hb8 := below_of_grow hg8
  have hob : ∀ g, o.blk = some g → w7.heap.size ≤ g := fun g hg => (hn8' g hg).elim (fun e => by simp [Sl.blk, Sl.nil] at e) id
  refine spec_PermOfTableaux.L11_rule _ _ _ _ _ _ (I := fun k w' => 0 ≤ k ∧ k ≤ tot C ∧ Below w.heap.size w w' ∧ ∃ rs T D tl, PotS C k.toNat T D ∧ OwnRows w' w.heap.size t rs T ∧ OwnI w' w.heap.size o (List.replicate k.toNat 0 ++ tl) ∧ (∀ g, foot t rs g → o.blk ≠ some g) ∧ popT C k.toNat T ++ tl = popT C (tot C) A) (μ := fun k _ => k.toNat)
    ⟨by omega, by omega, hb06.trans (hb8.mono hb06.size), rt, A, C, [], ?_, (ht.grow hb8).mono hb05.size, by simpa [OwnI] using ho, fun g hg e => by have := hob g e; have := (ht.footLt hg).2; omega, by simp⟩ ?_
  · rw [Int.toNat_natCast]; exact PotS.start hTA hTC hE
  rintro k w9 ⟨hk0, hk, hb9, rs, T, D, tl, hp, hot, hoo, hdis, heq⟩
  rw [spec_PermOfTableaux.B11_s]
  refine bif_dec (fun h4 => ?_) (fun h4 => ?_)
  · obtain ⟨k', rfl⟩ : ∃ k' : Nat, k = (k' : Int) + 1 := ⟨(k - 1).toNat, by omega⟩
    have ek : ((k' : Int) + 1).toNat = k' + 1 := by omega
    rw [ek] at hp hoo heq
    obtain ⟨r2, hN⟩ := hp.step hTC.perm.nodup
    refine (c_l19Row (hb.grow hb9) hC tC _).mono ?_
    rintro e w10 ⟨rfl, hb10⟩
    refine ⟨_, rfl, ?_⟩
    rw [hN.row]
    have hb010 := hb9.trans (hb10.mono hb9.size)
    have hrT : r2 < T.length := by have := hp.lt; have := hN.lt; omega
    have hlen : ∀ i, (T.getD i []).length < 2^38 := fun i => by
      rw [hp.same]
      rcases Nat.lt_or_ge i D.length with h5 | h5
      · have h6 := flat_tab (T := D) (R := D.getD i []) (by rw [getD_SS h5]; exact List.getElem_mem h5)
        have h7 := hp.pc.length_eq
        rw [idn_length] at h7
        omega
      · rw [List.getD_eq_getElem?_getD, List.getElem?_eq_none h5]; simp
    refine (c_l19Take (hot.grow hb10) hb010.size (by have := hp.lt; omega) hlen hrT (by rw [hp.same]; exact hN.posC) hN.bq).mono ?_
    rintro e w11 ⟨rfl, rs', hot', hst⟩
    refine ⟨_, rfl, ?_⟩
    rw [w64_id (n := (k' : Int) + 1 - 1) (by omega) (by omega), show (k' : Int) + 1 - 1 = k' by omega]
    have hoo10 : OwnI w10 w.heap.size o (List.replicate (k' + 1) 0 ++ tl) := Own.grow hoo hb10
    have hoo11 : OwnI w11 w.heap.size o (List.replicate (k' + 1) 0 ++ tl) := Own.keeps hoo10 hst.keeps fun g h1 h2 => hdis g h2 h1
    have hb011 := hb010.trans (hst.below (fun g hg => (hot.footLt hg).1) hb010.size)
    refine Own.put hoo11 (by omega) (by simp; omega) ?_
    intro w12 hoo12 hg12 _
    have hdis11 : ∀ g, foot t rs' g → ¬ o.blk = some g := hst.apart (F := fun g => o.blk = some g) (fun g hg => (hoo10.lt g hg).2) fun g h1 h2 => hdis g h1 h2
    refine ⟨(k' : Int), rfl, ⟨by omega, by omega, hb011.grown hg12 hb011.size (fun g hg => (hoo11.lt g hg).1), rs', _, _, (takeAt T r2).2 :: tl, by rw [Int.toNat_natCast]; exact hN.next, hot'.keepsF (keeps_grown hg12) fun g h1 h2 => hdis11 g h1 h2, ?_, hdis11, ?_⟩, by omega⟩
    · rw [Int.toNat_natCast] at hoo12 ⊢
      have e1 : (List.replicate (k' + 1) (0 : Int) ++ tl).set k' (takeAt T r2).2 = List.replicate k' 0 ++ (takeAt T r2).2 :: tl := by
        rw [List.replicate_succ', List.append_assoc, List.set_append_right _ _ (by simp)]
        simp
      rw [← e1]
      simpa [OwnI, List.map_set] using hoo12
    · rw [Int.toNat_natCast, ← heq, popT, hN.row]; simp
  · rw [spec_PermOfTableaux.A11_2_s]
    rw [show k.toNat = 0 by omega] at hoo heq
    rw [← heq]
    exact ⟨o, rfl, by simpa [popT] using hoo, hb9⟩
open Classical in
theorem c_specPermOfTableaux {w : World} {a b : Sl} {A C : List (List Int)} (ha : RowSS w a A) (hA : A.length < 2^38) (tA : tot A < 2^38) (hb : RowSS w b C) (hC : C.length < 2^38) (tC : tot C < 2^38) :
    Calls PP F.spec_PermOfTableaux #[a.v, b.v] w fun e w' => ∃ s : Sl, e = .returned (.tuple #[s.v, .bool (PermOfTableauxV1 A C)]) ∧ RowI w' s (PermOfTableauxV A C) ∧ Below w.heap.size w w' :=
  (c_specPermOfTableauxO ha hA tA hb hC tC).mono fun _ _ ⟨s, h1, h2, h3⟩ => ⟨s, h1, h2.row, h3⟩
end Go.Proofs.Ytfainpmcdfckkaa
