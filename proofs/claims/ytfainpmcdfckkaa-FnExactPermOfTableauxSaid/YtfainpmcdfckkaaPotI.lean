/- PermOfTableaux: the program's text. -/
import Derived.Test.YtfainpmcdfckkaaPotS
import Derived.Test.YtfainpmcdfckkaaFuS
import Derived.Test.YtfainpmcdfckkaaEq
namespace Go.Proofs.Ytfainpmcdfckkaa
open Go Go.RowKit
set_option maxRecDepth 100000

def lastIs (k : Int) (L : List Int) : Bool := decide (0 < L.length) && L.getD (L.length - 1) 0 == k
theorem c_LastFn {w0 : World} {v : Addr} {k : Int} (hv : w0.cell? v = some (vI k)) {r : Sl} {L : List Int} (hr : RowI w0 r L) (hL : L.length < 2^38) : FnB w0 (.func (.func F.impl_PermOfTableauxL1) #[] #[.pointer (some v)]) [r.v] (lastIs k L) := by
  intro w hb
  have hrn : r.n = L.length := by have := hr.n; simpa using this
  refine ⟨F.impl_PermOfTableauxL1, #[], #[.pointer (some v)], rfl, by kernel_rfl, ?_⟩
  refine impl_PermOfTableauxL1.calls r v ?_
  rw [impl_PermOfTableauxL1.E_s, hrn]
  refine bif_dec (fun h => ?_) (fun h => ?_)
  · rw [w64_id (by omega) (by omega)]
    refine RowI.get (hr.grow hb) (by omega) (by omega) ?_
    refine load_int (cell_grow hv hb) ?_
    refine drew_intro fun w1 hd => ?_
    refine ⟨?_, hd.below _⟩
    rw [lastIs, decide_eq_true (by omega), show ((L.length : Int) - 1).toNat = L.length - 1 by omega]; rfl
  · refine drew_intro fun w1 hd => ?_
    refine ⟨?_, hd.below _⟩
    rw [lastIs, decide_eq_false (by omega)]; rfl
theorem PotN.idx {b : List (List Int)} {k : Nat} {T C : List (List Int)} {r : Nat} (h : PotN b k T C r) (hl : C.length = b.length) : idxF (lastIs ((k : Int) + 1)) C = r := by
  have hr : r < C.length := by have := h.lt; omega
  refine idxF_at hr ?_ fun j hj => ?_
  · rw [← getD_SS hr, lastIs, decide_eq_true h.posC, h.last]; simp
  · rw [← getD_SS (show j < C.length by omega), lastIs]
    by_cases h1 : 0 < (C.getD j []).length
    · by_cases h2 : (C.getD j []).getD ((C.getD j []).length - 1) 0 = (k : Int) + 1
      · have := h.only j (by omega) h1 h2; omega
      · rw [decide_eq_true h1, Bool.true_and]; exact beq_false_of_ne h2
    · rw [decide_eq_false h1]; rfl
/-- The number goes up through the rows. -/
theorem impl_bump {w : World} {B : Nat} {a b o : Sl} {i : Addr} {rs : List Sl} {T : List (List Int)} {r : Nat} {n : Int} (h : OwnRows w B a rs T) (hB : B ≤ w.heap.size) (hR : ∀ j, (T.getD j []).length < 2^38) (hrT : r < 2^38) (hq : BQ T n r) {k : Env → World → Prop} {Q : Exit → Env → World → Prop}
    (hfin : ∀ w', OwnRows w' B a rs (bump T n r).1 → Stp w w' (foot a rs) (foot a rs) → (impl_PermOfTableaux.q49 std k Q) (.exit 4) (impl_PermOfTableaux.x4 a b o i (bump T n r).2) w') : impl_PermOfTableaux.J18 std a b o i r n w k Q := by
  rw [impl_PermOfTableaux.J18_s, w64_id (n := (r : Int) - 1) (by omega) (by omega)]
  refine impl_PermOfTableaux.L19_rule _ _ _ _ _ _ _ _ (I := fun q v w' => -1 ≤ q ∧ q < r ∧ B ≤ w'.heap.size ∧ ∃ T1, OwnRows w' B a rs T1 ∧ T1.length = T.length ∧ (∀ j, (T1.getD j []).length < 2^38) ∧ BQ T1 v (q + 1).toNat ∧ bump T1 v (q + 1).toNat = bump T n r ∧ Stp w w' (foot a rs) (foot a rs))
    (μ := fun q _ _ => (q + 1).toNat) ⟨by omega, by omega, hB, T, h, rfl, hR, by rw [show ((r : Int) - 1 + 1).toNat = r by omega]; exact hq, by rw [show ((r : Int) - 1 + 1).toNat = r by omega], Stp.refl _ _⟩ ?_
  rintro q v w2 ⟨hq0, hqr, hB2, T1, ho, hl1, hR1, hbq, heq, st⟩
  rw [impl_PermOfTableaux.B19_s]
  refine bif_dec (fun h3 => ?_) (fun h3 => ?_)
  · have hqs : (q + 1).toNat = q.toNat + 1 := by omega
    rw [hqs] at hbq heq
    obtain ⟨a1, a2, a3, a4⟩ := hbq.at_
    have hRq := hR1 q.toNat
    refine ho.load h3 (by omega) fun ρ2 hρ2 ho2 => ?_
    have hρ2n : ρ2.n = (T1.getD q.toNat []).length := by have := ho2.n; simpa using this
    rw [hρ2n, w64_id (n := ((T1.getD q.toNat []).length : Int) - 1) (by omega) (by omega)]
    refine impl_PermOfTableaux.L22_rule _ _ _ _ _ _ _ _ _ (I := fun c w' => w' = w2 ∧ 0 ≤ c ∧ c < (T1.getD q.toNat []).length ∧ dn (T1.getD q.toNat []) v c.toNat = dn (T1.getD q.toNat []) v ((T1.getD q.toNat []).length - 1)) (μ := fun c _ => c.toNat)
      ⟨rfl, by omega, by omega, by rw [show (((T1.getD q.toNat []).length : Int) - 1).toNat = (T1.getD q.toNat []).length - 1 by omega]⟩ ?_
    rintro c w3 ⟨rfl, hc0, hcl, hcd⟩
    have hdle := dn_le (T1.getD q.toNat []) v c.toNat
    rw [impl_PermOfTableaux.B22_s]
    refine ho.load h3 (by omega) fun ρ3 _ ho3 => ?_
    refine RowI.get ho3.row hc0 (by omega) ?_
    refine bif_dec (fun h4 => ?_) (fun h4 => ?_)
    · have hc1 : c.toNat ≠ 0 := by
        intro e
        rw [e] at hcd h4
        rw [← hcd, dn] at a4
        omega
      refine ⟨c - 1, by rw [w64_id (by omega) (by omega)], ⟨rfl, by omega, by omega, ?_⟩, by omega⟩
      rw [← hcd]
      obtain ⟨d, hd⟩ : ∃ d, c.toNat = d + 1 := ⟨c.toNat - 1, by omega⟩
      rw [hd] at h4 ⊢
      rw [show (c - 1).toNat = d by omega, dn, if_pos h4]
    · have hcd' : c.toNat = dn (T1.getD q.toNat []) v ((T1.getD q.toNat []).length - 1) := by
        rw [← hcd]
        rcases Nat.eq_zero_or_pos c.toNat with e | e
        · rw [e]; rfl
        · obtain ⟨d, hd⟩ : ∃ d, c.toNat = d + 1 := ⟨c.toNat - 1, by omega⟩
          rw [hd] at h4 ⊢
          rw [dn, if_neg h4]
      rw [impl_PermOfTableaux.A22_6_s]
      refine drew_intro fun w4 hd4 => ?_
      have hh := hd4.heap'
      have ho4 := ho.heap hh
      have hot := ho4.at_ q.toNat ρ2 _ hρ2 (by rw [List.getElem?_eq_getElem a1, ← getD_SS a1])
      refine ho4.placeT h3 (by omega) hρ2 fun a5 _ hc5 => ?_
      refine ho4.placeT h3 (by omega) hρ2 fun a6 _ hc6 => ?_
      have hpl : ∀ K : Addr → Prop, (∀ a', w4.cell? a' = some (vI ((T1.getD q.toNat []).getD c.toNat 0)) → K a') → idxK 1 ρ2 c K := fun K hk => RowI.place hot.row hc0 (by omega) hk
      have l5 : ∀ K : Sl → Prop, K ρ2 → load1 .sl a5 w4 K := fun K hk => load_sl hc5 hk
      have l6 : ∀ K : Sl → Prop, K ρ2 → load1 .sl a6 w4 K := fun K hk => load_sl hc6 hk
      have fin : idxK 1 ρ2 c fun a7 => storeC a7 (vI v) w4 fun w5 => ∃ q_n v_n, impl_PermOfTableaux.emb19 a b o i (w64 (q - 1)) ((T1.getD q.toNat []).getD c.toNat 0) = impl_PermOfTableaux.emb19 a b o i q_n v_n ∧ (-1 ≤ q_n ∧ q_n < r ∧ B ≤ w5.heap.size ∧ ∃ T1, OwnRows w5 B a rs T1 ∧ T1.length = T.length ∧ (∀ j, (T1.getD j []).length < 2^38) ∧ BQ T1 v_n (q_n + 1).toNat ∧ bump T1 v_n (q_n + 1).toNat = bump T n r ∧ Stp w w5 (foot a rs) (foot a rs)) ∧ (q_n + 1).toNat < (q + 1).toNat := by
        refine Own.put hot hc0 (by rw [List.length_map]; omega) ?_
        intro w5 h5 hg5 hz5
        have h5' : OwnI w5 B ρ2 ((T1.getD q.toNat []).set c.toNat v) := by simp only [OwnI, List.map_set]; exact h5
        have ho5 := ho4.inside hρ2 h5' hg5
        have st5 : Stp w w5 (foot a rs) (foot a rs) := st.trans ⟨(hd4.keeps _).trans ((keeps_grown hg5).mono fun g e => .inr ⟨ρ2, List.mem_of_getElem? hρ2, e⟩), fun _ e => .inl e⟩
        rw [hcd'] at ho5 ⊢
        refine ⟨q - 1, _, by rw [w64_id (by omega) (by omega)], ⟨by omega, by omega, by rw [hz5, hh]; omega, _, ho5, by rw [List.length_set]; exact hl1, fun j => ?_, by rw [show (q - 1 + 1).toNat = q.toNat by omega]; exact hbq.step, by rw [show (q - 1 + 1).toNat = q.toNat by omega]; rw [← heq, bump], st5⟩, by omega⟩
        rw [getD_setR]
        split
        · rw [List.length_set]; exact hRq
        · exact hR1 j
      repeat' first
        | (with_reducible exact fin)
        | (with_reducible apply And.intro)
        | (with_reducible refine l5 _ ?_)
        | (with_reducible refine l6 _ ?_)
        | (with_reducible refine load_int (by assumption) ?_)
        | (with_reducible refine hpl _ ?_; intro _ _)
  · rw [show (q + 1).toNat = 0 by omega, bump] at heq
    have h5 := hfin w2 (by rw [← heq]; exact ho) st
    rw [← heq] at h5
    exact h5
def cellN (w : World) (i : Addr) : Nat := match w.cell? i with
  | some (.int _ n) => n.toNat
  | _ => 0
theorem cellN_eq {w B i x} (h : OwnI w B (vsl i) [x]) : cellN w i = x.toNat := by rw [cellN, vsl_cell h]
/-- The state between two numbers. -/
structure PoS (w0 : World) (B : Nat) (A C : List (List Int)) (a b o : Sl) (i : Addr) (k : Nat) (w : World) : Prop where
  below : Below B w0 w
  hB : B ≤ w.heap.size
  st : ∃ ra rb T D tl, PotS C k T D ∧ OwnRows w B a ra T ∧ OwnRows w B b rb D ∧ OwnI w B o (List.replicate k 0 ++ tl) ∧ OwnI w B (vsl i) [(k : Int)] ∧
    (∀ g, foot a ra g → ¬ foot b rb g) ∧ (∀ g, foot a ra g → o.blk ≠ some g) ∧ (∀ g, foot b rb g → o.blk ≠ some g) ∧ (∀ g, foot a ra g → i.block ≠ g) ∧ (∀ g, foot b rb g → i.block ≠ g) ∧ o.blk ≠ some i.block ∧ popT C k T ++ tl = popT C (tot C) A
set_option maxHeartbeats 1000000 in
open Classical in
theorem c_implPermOfTableaux {w : World} {a b : Sl} {A C : List (List Int)} (ha : RowSS w a A) (hA : A.length < 2^38) (tA : tot A < 2^38) (hb : RowSS w b C) (hC : C.length < 2^38) (tC : tot C < 2^38) :
    Calls PP F.impl_PermOfTableaux #[a.v, b.v] w fun e w' => ∃ s : Sl, e = .returned (.tuple #[s.v, .bool (PermOfTableauxV1 A C)]) ∧ OwnI w' w.heap.size s (PermOfTableauxV A C) ∧ Below w.heap.size w w' := by
  refine impl_PermOfTableaux.calls a b ?_
  rw [impl_PermOfTableaux.E_s]
  have no : ∀ (w1 : World), Below w.heap.size w w1 → ¬ (IsTab A ∧ IsTab C ∧ lens A = lens C) → ∃ s : Sl, Ending.returned (.tuple #[Sl.nil.v, .bool false]) = .returned (.tuple #[s.v, .bool (PermOfTableauxV1 A C)]) ∧ OwnI w1 w.heap.size s (PermOfTableauxV A C) ∧ Below w.heap.size w w1 := by
    intro w1 hb1 hn
    rw [PermOfTableauxV, PermOfTableauxV1, if_neg hn, decide_eq_false hn]
    exact ⟨Sl.nil, rfl, Own.nil _ _ _, hb1⟩
  refine (c_implIsTableau ha hA tA).mono ?_
  rintro e w1 ⟨rfl, hb1⟩
  refine ⟨_, rfl, ?_⟩
  refine bif_intro (fun h => ?_) (fun h => ?_)
  · exact no w1 hb1 fun hh => by simp [IsTableauV, hh.1] at h
  have hTA : IsTab A := by simpa [IsTableauV] using h
  refine (c_implIsTableau (hb.grow hb1) hC tC).mono ?_
  rintro e w2 ⟨rfl, hb2⟩
  refine ⟨_, rfl, ?_⟩
  have hb02 := hb1.trans (hb2.mono hb1.size)
  refine bif_intro (fun h => ?_) (fun h => ?_)
  · exact no w2 hb02 fun hh => by simp [IsTableauV, hh.2.1] at h
  have hTC : IsTab C := by simpa [IsTableauV] using h
  refine (c_form (ha.grow hb02) hA tA).mono ?_
  rintro e w3 ⟨s3, rfl, hs3, hb3⟩
  refine ⟨s3, rfl, ?_⟩
  have hb03 := hb02.trans (hb3.mono hb02.size)
  refine (c_form (hb.grow hb03) hC tC).mono ?_
  rintro e w4 ⟨s4, rfl, hs4, hb4⟩
  refine ⟨s4, rfl, ?_⟩
  have hb04 := hb03.trans (hb4.mono hb03.size)
  refine Quiet.call1 (s := .bool) (c_Equal (hs3.row.grow hb4) hs4.row (by rw [lens_length]; omega)) ?_
  intro w5 hd5
  have hb05 := hb04.trans (hd5.below _)
  refine bif_intro (fun h => ?_) (fun h => ?_)
  · exact no w5 hb05 fun hh => by simp [hh.2.2] at h
  have hE : lens A = lens C := by simpa using h
  rw [PermOfTableauxV, PermOfTableauxV1, if_pos ⟨hTA, hTC, hE⟩, decide_eq_true (show IsTab A ∧ IsTab C ∧ lens A = lens C from ⟨hTA, hTC, hE⟩)]
  have hn8 := hTC.form.count
  have ht8 := hTC.form.tot
  have hlAC : A.length = C.length := by have := congrArg List.length hE; simpa [lens_length] using this
  have htot : tot A = tot C := by
    have h1 := sm_lens A A.length (Nat.le_refl _)
    have h2 := sm_lens C C.length (Nat.le_refl _)
    rw [List.take_length] at h1 h2
    rw [hE, hlAC] at h1
    omega
  refine (c_copied (ha.grow hb05) hA tA).mono ?_
  rintro e w6 ⟨a', ra, rfl, hoa, hb6⟩
  refine ⟨a', rfl, ?_⟩
  have hb06 := hb05.trans (hb6.mono hb05.size)
  refine (c_copied (hb.grow hb06) hC tC).mono ?_
  rintro e w7 ⟨b', rb, rfl, hob, hb7⟩
  refine ⟨b', rfl, ?_⟩
  have hb07 := hb06.trans (hb7.mono hb06.size)
  have hoa7 := hoa.grow hb7
  have hab : ∀ g, foot a' ra g → ¬ foot b' rb g := fun g h1 h2 => by have := (hoa.footLt h1).2; have := (hob.footLt h2).1; omega
  have han := hoa7.n
  rw [han]
  refine impl_PermOfTableaux.L6_rule _ _ _ _ _ _ _ _ (I := fun z r w' => w' = w7 ∧ 0 ≤ r ∧ r ≤ A.length ∧ z = (tot (A.take r.toNat) : Int)) (μ := fun _ r _ => (A.length - r).toNat) ⟨rfl, by omega, by omega, by simp [tot_nil]⟩ ?_
  rintro z r w8 ⟨rfl, hr0, hr, rfl⟩
  rw [impl_PermOfTableaux.B6_s]
  refine bif_dec (fun h3 => ?_) (fun h3 => ?_)
  · have hlt : r.toNat < A.length := by omega
    refine hoa7.load hr0 (by omega) fun ρ _ hρ => ?_
    have hρn : ρ.n = (A.getD r.toNat []).length := by have := hρ.n; simpa using this
    have h4 := tot_take_succ hlt
    have h5 := tot_take_le A (r.toNat + 1)
    refine ⟨_, r + 1, by rw [w64_succ hr0 (by omega), w64_id (by omega) (by omega)], ⟨rfl, by omega, by omega, ?_⟩, by omega⟩
    rw [show (r + 1).toNat = r.toNat + 1 by omega, h4, hρn]; omega
  rw [impl_PermOfTableaux.A6_0_s]
  rw [show r.toNat = A.length by omega, List.take_length, htot]
  refine make_own oneInt (B := w.heap.size) hb07.size (by omega) (by omega) ?_
  intro o w9 ho hg9 hn9
  rw [Int.toNat_natCast] at ho
  have hb9 := below_of_grow hg9
  have hb09 := hb07.trans (hb9.mono hb07.size)
  have hobl : ∀ g, o.blk = some g → w8.heap.size ≤ g := fun g hg => (hn9 g hg).elim (fun e => by simp [Sl.blk, Sl.nil] at e) id
  refine vsl_new hb09.size fun i w10 hi hib hb10 => ?_
  have hb010 := hb09.trans (hb10.mono hb09.size)
  have hsz9 := hb9.size
  refine impl_PermOfTableaux.L12_rule _ _ _ _ _ _ (I := fun i w' => ∃ k : Nat, k ≤ tot C ∧ PoS w w.heap.size A C a' b' o i k w') (μ := fun i w' => cellN w' i)
    ⟨tot C, Nat.le_refl _, hb010, hb010.size, ra, rb, A, C, [], PotS.start hTA hTC hE, ((hoa7.grow hb9).grow hb10).mono hb05.size, ((hob.grow hb9).grow hb10).mono hb06.size, by simpa [OwnI] using ho.grow hb10, hi, hab, fun g hg e => ?_, fun g hg e => ?_, fun g hg e => ?_, fun g hg e => ?_, fun e => ?_, by simp⟩ ?_
  · have := hobl g e; have := (hoa7.footLt hg).2; omega
  · have := hobl g e; have := (hob.footLt hg).2; omega
  · have := (hoa7.footLt hg).2; omega
  · have := (hob.footLt hg).2; omega
  · have := (ho.lt _ e).2; omega
  rintro i w11 ⟨k, hk, hb11, hB11, ra, rb, T, D, tl, hp, oa, ob, oo, oi, ab, ao, bo, ai, bi, oib, heq⟩
  have hμ : cellN w11 i = k := by rw [cellN_eq oi]; omega
  rw [impl_PermOfTableaux.B12_s]
  refine load_int (vsl_cell oi) ?_
  refine bif_dec (fun h4 => ?_) (fun h4 => ?_)
  · obtain ⟨k', rfl⟩ : ∃ k', k = k' + 1 := ⟨k - 1, by omega⟩
    obtain ⟨r2, hN⟩ := hp.step hTC.perm.nodup
    have hrT : r2 < T.length := by have := hp.lt; have := hN.lt; omega
    have hrD : r2 < D.length := by have := hp.lc; have := hN.lt; omega
    have hDl : ∀ R ∈ D, R.length ≤ 8 := fun R hR => by
      have h6 := flat_tab hR
      have h7 := hp.pc.length_eq
      rw [idn_length] at h7
      omega
    have hDr : ∀ j, (D.getD j []).length ≤ 8 := fun j => by
      rcases Nat.lt_or_ge j D.length with h5 | h5
      · exact hDl _ (by rw [getD_SS h5]; exact List.getElem_mem h5)
      · rw [List.getD_eq_getElem?_getD, List.getElem?_eq_none h5]; simp
    have hTr : ∀ j, (T.getD j []).length ≤ 8 := fun j => by rw [hp.same]; exact hDr j
    have hpos := hN.posC
    have hsame := hp.same r2
    refine (c_IndexFuncS ob.row (by have := hp.lc; omega) (φ := lastIs ((k' : Int) + 1)) fun L hL r hr => c_LastFn (by have := vsl_cell oi; rw [this]; simp) hr (by have := hDl L hL; omega)).mono ?_
    rintro e w12 ⟨rfl, hb12⟩
    refine ⟨_, rfl, ?_⟩
    rw [hN.idx hp.lc]
    replace oa := oa.grow hb12
    replace ob := ob.grow hb12
    replace oo := Own.grow oo hb12
    replace oi := Own.grow oi hb12
    have hb012 := hb11.trans (hb12.mono hB11)
    obtain ⟨ta, hta, hota⟩ := oa.get hrT
    obtain ⟨tb, htb, hotb⟩ := ob.get hrD
    have htan : ta.n = (T.getD r2 []).length := by have := hota.n; simpa using this
    have htbn : tb.n = (D.getD r2 []).length := by have := hotb.n; simpa using this
    have h8 := hTr r2
    have h9 := hDr r2
    have ld : ∀ {K : Sl → Prop}, K ta → idxK 1 a' (r2 : Int) fun a => load1 .sl a w12 K := fun {K} hk => Row.get (sh := .sl) (r := ta) oa.out.row (by omega) (by rw [List.getElem?_map, Int.toNat_natCast, hta]; rfl) hk
    refine ld (ld ?_)
    rw [htan, w64_id (n := ((T.getD r2 []).length : Int) - 1) (by omega) (by omega)]
    refine RowI.get hota.row (by omega) (by omega) ?_
    rw [show (((T.getD r2 []).length : Int) - 1).toNat = (T.getD r2 []).length - 1 by omega]
    refine drew_intro fun w13 hd13 => ?_
    have hh := hd13.heap'
    replace oa := oa.heap hh
    replace ob := ob.heap hh
    replace oo := Own.heap oo hh
    replace oi := Own.heap oi hh
    replace hota := Own.heap hota hh
    replace hotb := Own.heap hotb hh
    have hb013 : Below w.heap.size w w13 := hb012.trans (hd13.below _)
    refine oa.placeT (by omega) (by omega) (by rw [Int.toNat_natCast]; exact hta) fun aa haa hca => ?_
    refine ob.placeT (by omega) (by omega) (by rw [Int.toNat_natCast]; exact htb) fun ad had hcb => ?_
    have la : ∀ K : Sl → Prop, K ta → load1 .sl aa w13 K := fun K hk => load_sl hca hk
    have lb : ∀ K : Sl → Prop, K tb → load1 .sl ad w13 K := fun K hk => load_sl hcb hk
    have ca : ∀ K : Sl → Prop, (OwnI w13 w.heap.size ⟨ta.a, (T.getD r2 []).length - 1, ta.c⟩ ((T.getD r2 []).take ((T.getD r2 []).length - 1)) → K ⟨ta.a, (T.getD r2 []).length - 1, ta.c⟩) → cutK 1 ta none (some (((T.getD r2 []).length : Int) - 1)) K := fun K hk => by
      refine Own.popE hota (by omega) (by rw [List.length_map]; omega) ?_
      rw [show (((T.getD r2 []).length : Int) - 1).toNat = (T.getD r2 []).length - 1 by omega, ← List.map_take]
      exact hk
    have cb : ∀ K : Sl → Prop, (OwnI w13 w.heap.size ⟨tb.a, (D.getD r2 []).length - 1, tb.c⟩ ((D.getD r2 []).take ((D.getD r2 []).length - 1)) → K ⟨tb.a, (D.getD r2 []).length - 1, tb.c⟩) → cutK 1 tb none (some (((T.getD r2 []).length : Int) - 1)) K := fun K hk => by
      refine Own.popE hotb (by omega) (by rw [List.length_map]; omega) ?_
      rw [show (((T.getD r2 []).length : Int) - 1).toNat = (D.getD r2 []).length - 1 by omega, ← List.map_take]
      exact hk
    have fin : OwnI w13 w.heap.size ⟨ta.a, (T.getD r2 []).length - 1, ta.c⟩ ((T.getD r2 []).take ((T.getD r2 []).length - 1)) → OwnI w13 w.heap.size ⟨tb.a, (D.getD r2 []).length - 1, tb.c⟩ ((D.getD r2 []).take ((D.getD r2 []).length - 1)) →
        idxK 1 a' (r2 : Int) fun a17 => storeC a17 (Sl.v ⟨ta.a, (T.getD r2 []).length - 1, ta.c⟩) w13 fun w14 => idxK 1 b' (r2 : Int) fun a18 => storeC a18 (Sl.v ⟨tb.a, (D.getD r2 []).length - 1, tb.c⟩) w14 fun w15 =>
          impl_PermOfTableaux.J18 std a' b' o i (r2 : Int) ((T.getD r2 []).getD ((T.getD r2 []).length - 1) 0) w15 (fun e2 w2 => ∃ i_n, e2 = impl_PermOfTableaux.emb12 a' b' o i_n ∧ (∃ k : Nat, k ≤ tot C ∧ PoS w w.heap.size A C a' b' o i_n k w2) ∧ cellN w2 i_n < cellN w11 i) (impl_PermOfTableaux.q24 std fun e w' => ∃ s : Sl, e = .returned (.tuple #[s.v, .bool true]) ∧ OwnI w' w.heap.size s (popT C (tot C) A) ∧ Below w.heap.size w w') := by
      intro hsa hsb
      have hma := List.mem_of_getElem? hta
      have hmb := List.mem_of_getElem? htb
      refine oa.storeK (S := fun _ => False) (by omega) (by omega) (t := ta) (by rw [Int.toNat_natCast]; exact hta) (Keeps.refl _ _) (fun _ _ hf => hf.elim) hsa (fun g hg => .inl hg) fun w14 oa14 hg14 st14 => ?_
      rw [Int.toNat_natCast] at oa14 st14
      have st14' : Stp w13 w14 (foot a' ra) (foot a' (ra.set r2 ⟨ta.a, (T.getD r2 []).length - 1, ta.c⟩)) := ⟨st14.keeps.mono fun k e => e.elim False.elim id, fun g hg => (st14.next g hg).imp (fun e => e.elim False.elim id) id⟩
      have ob14 := ob.keepsF st14'.keeps fun g h1 h2 => ab g h2 h1
      have oo14 := Own.keeps oo st14'.keeps fun g h1 h2 => ao g h2 h1
      have oi14 := Own.keeps oi st14'.keeps fun g h1 h2 => by rw [vsl_blk] at h1; simp at h1; exact ai g h2 h1
      have hsb14 : OwnI w14 w.heap.size ⟨tb.a, (D.getD r2 []).length - 1, tb.c⟩ ((D.getD r2 []).take ((D.getD r2 []).length - 1)) := Own.keeps hsb st14'.keeps fun g h1 h2 => ab g h2 (.inr ⟨tb, hmb, h1⟩)
      have ab14 := st14'.apart (fun g hg => (ob.footLt hg).2) ab
      have ao14 : ∀ g, foot a' (ra.set r2 ⟨ta.a, (T.getD r2 []).length - 1, ta.c⟩) g → ¬ o.blk = some g := st14'.apart (F := fun g => o.blk = some g) (fun g hg => (oo.lt g hg).2) ao
      have ai14 : ∀ g, foot a' (ra.set r2 ⟨ta.a, (T.getD r2 []).length - 1, ta.c⟩) g → ¬ i.block = g := st14'.apart (F := fun g => i.block = g) (fun g hg => by subst hg; exact (oi.lt _ (vsl_blk i)).2) ai
      have hb014 := hb013.trans (st14'.below (fun g hg => (oa.footLt hg).1) hb013.size)
      refine ob14.storeK (S := fun _ => False) (by omega) (by omega) (t := tb) (by rw [Int.toNat_natCast]; exact htb) (Keeps.refl _ _) (fun _ _ hf => hf.elim) hsb14 (fun g hg => .inl hg) fun w15 ob15 hg15 st15 => ?_
      rw [Int.toNat_natCast] at ob15 st15
      have st15' : Stp w14 w15 (foot b' rb) (foot b' (rb.set r2 ⟨tb.a, (D.getD r2 []).length - 1, tb.c⟩)) := ⟨st15.keeps.mono fun k e => e.elim False.elim id, fun g hg => (st15.next g hg).imp (fun e => e.elim False.elim id) id⟩
      have oa15 := oa14.keepsF st15'.keeps fun g h1 h2 => ab14 g h1 h2
      have oo15 := Own.keeps oo14 st15'.keeps fun g h1 h2 => bo g h2 h1
      have oi15 := Own.keeps oi14 st15'.keeps fun g h1 h2 => by rw [vsl_blk] at h1; simp at h1; exact bi g h2 h1
      have ab15 : ∀ g, foot b' (rb.set r2 ⟨tb.a, (D.getD r2 []).length - 1, tb.c⟩) g → ¬ foot a' (ra.set r2 ⟨ta.a, (T.getD r2 []).length - 1, ta.c⟩) g := st15'.apart (fun g hg => (oa14.footLt hg).2) fun g h1 h2 => ab14 g h2 h1
      have bo15 : ∀ g, foot b' (rb.set r2 ⟨tb.a, (D.getD r2 []).length - 1, tb.c⟩) g → ¬ o.blk = some g := st15'.apart (F := fun g => o.blk = some g) (fun g hg => (oo14.lt g hg).2) bo
      have bi15 : ∀ g, foot b' (rb.set r2 ⟨tb.a, (D.getD r2 []).length - 1, tb.c⟩) g → ¬ i.block = g := st15'.apart (F := fun g => i.block = g) (fun g hg => by subst hg; exact (oi14.lt _ (vsl_blk i)).2) bi
      have hb015 := hb014.trans (st15'.below (fun g hg => (ob14.footLt hg).1) hb014.size)
      refine impl_bump oa15 hb015.size (fun j => ?_) (by have := hp.lt; omega) hN.bq fun w16 oa16 st16 => ?_
      · rw [getD_setR]
        split
        · rw [List.length_take]; omega
        · have := hTr j; omega
      have ob16 := ob15.keepsF st16.keeps fun g h1 h2 => ab15 g h1 h2
      have oo16 := Own.keeps oo15 st16.keeps fun g h1 h2 => ao14 g h2 h1
      have oi16 := Own.keeps oi15 st16.keeps fun g h1 h2 => by rw [vsl_blk] at h1; simp at h1; exact ai14 g h2 h1
      have hb016 := hb015.trans (st16.below (fun g hg => (oa15.footLt hg).1) hb015.size)
      rw [impl_PermOfTableaux.A19_4_s]
      refine load_int (vsl_cell oi16) ?_
      rw [w64_id (n := ((k' + 1 : Nat) : Int) - 1) (by omega) (by omega), show ((k' + 1 : Nat) : Int) - 1 = (k' : Int) by omega]
      refine Own.put oo16 (by omega) (by simp; omega) ?_
      intro w17 oo17 hg17 _
      have k17 := keeps_grown hg17
      have oa17 := oa16.keepsF k17 fun g h1 h2 => ao14 g h1 h2
      have ob17 := ob16.keepsF k17 fun g h1 h2 => bo15 g h1 h2
      have oi17 := Own.keeps oi16 k17 fun g h1 h2 => by rw [vsl_blk] at h1; simp at h1; subst h1; exact oib h2
      have hb017 := hb016.grown hg17 hb016.size (fun g hg => (oo16.lt g hg).1)
      refine load_int (vsl_cell oi17) ?_
      refine vsl_new hb017.size fun i2 w18 oi18 hi18 hb18 => ?_
      have hb018 := hb017.trans (hb18.mono hb017.size)
      refine load_int (vsl_cell oi18) ?_
      rw [w64_id (n := ((k' + 1 : Nat) : Int) - 1) (by omega) (by omega), show ((k' + 1 : Nat) : Int) - 1 = (k' : Int) by omega]
      refine vsl_store oi18 fun w19 oi19 hg19 => ?_
      have k19 := keeps_grown hg19
      have oa18 := oa17.grow hb18
      have ob18 := ob17.grow hb18
      have oo18 := Own.grow oo17 hb18
      have hia : ∀ g, foot a' (ra.set r2 ⟨ta.a, (T.getD r2 []).length - 1, ta.c⟩) g → i2.block ≠ g := fun g hg e => by have := (oa17.footLt hg).2; omega
      have hib' : ∀ g, foot b' (rb.set r2 ⟨tb.a, (D.getD r2 []).length - 1, tb.c⟩) g → i2.block ≠ g := fun g hg e => by have := (ob17.footLt hg).2; omega
      have hio : o.blk ≠ some i2.block := fun e => by have := (oo17.lt _ e).2; omega
      have hb019 := hb018.trans (k19.below (B := w.heap.size) (fun g e => by simp at e; subst e; exact (oi18.lt _ (vsl_blk i2)).1) hb018.size)
      refine ⟨i2, rfl, ⟨k', by omega, hb019, hb019.size, _, _, _, _, (takeAt T r2).2 :: tl, hN.next, oa18.keepsF k19 fun g h1 h2 => by simp at h2; exact hia g h1 h2, ob18.keepsF k19 fun g h1 h2 => by simp at h2; exact hib' g h1 h2, ?_, oi19, fun g h1 h2 => ab15 g h2 h1, ao14, bo15, hia, hib', hio, ?_⟩, ?_⟩
      · have h20 := Own.keeps oo18 k19 fun g h1 h2 => by simp at h2; subst h2; exact hio h1
        rw [Int.toNat_natCast] at h20
        have e1 : (List.replicate (k' + 1) (0 : Int) ++ tl).set k' (takeAt T r2).2 = List.replicate k' 0 ++ (takeAt T r2).2 :: tl := by
          rw [List.replicate_succ', List.append_assoc, List.set_append_right _ _ (by simp)]
          simp
        rw [← e1]
        simp only [OwnI, List.map_set]
        exact h20
      · rw [← heq, popT, hN.row]; simp
      · rw [hμ, cellN_eq oi19]; omega
    apply And.intro
    · refine la _ (ca _ fun h1 => lb _ (cb _ fun h2 => fin h1 h2))
    · refine lb _ (cb _ fun h2 => la _ (ca _ fun h1 => fin h1 h2))
  · rw [impl_PermOfTableaux.A12_2_s]
    have hk0 : k = 0 := by omega
    subst hk0
    rw [← heq]
    exact ⟨o, rfl, by simpa [popT] using oo, hb11⟩
theorem PermOfTableauxV_len (A C : List (List Int)) : (PermOfTableauxV A C).length < 2^38 := by
  by_cases h : IsTab A ∧ IsTab C ∧ lens A = lens C
  · rw [PermOfTableauxV, if_pos h, popT_length]
    have := h.2.1.form.tot
    omega
  · rw [PermOfTableauxV, if_neg h]; simp
end Go.Proofs.Ytfainpmcdfckkaa
