/- TableauxOf: the model's text. -/
import Derived.Test.YtfainpmcdfckkaaCodeF
import Derived.Test.YtfainpmcdfckkaaFillMath
namespace Go.Proofs.Ytfainpmcdfckkaa
open Go Go.RowKit
set_option maxRecDepth 100000

/-- What a step that fills does to the list of tables. -/
structure Filled (w w' : World) (B : Nat) (s s' : Sl) (G H : List Grp) (V : List (List (List Int))) : Prop where
  own : OwnS3 w' B s' (G ++ H)
  val : vals H = V
  new : ∀ g ∈ H, ∀ x, g.foot x → w.heap.size ≤ x
  stp : Stp w w' (fun x => s.blk = some x) (fun x => s'.blk = some x)
theorem w64_add {a b : Int} (h1 : -1000000 ≤ a) (h2 : a ≤ 1000000) (h3 : -1000000 ≤ b) (h4 : b ≤ 1000000) : w64 (a + b) = a + b := w64_id (by omega) (by omega)
set_option maxHeartbeats 1000000 in
theorem c_l19Fill {Fo : List Int} (hF : Fo.length ≤ 8) : ∀ (m : Nat) {w : World} {B Bf Bt : Nat} {f t out : Sl} {rt : List Sl} {T : List (List Int)} {G : List Grp} (n size : Int), OwnI w Bf f Fo → OwnRows w Bt t rt T → OwnS3 w B out G → B ≤ w.heap.size → T.length = Fo.length → tot T + m ≤ 100 → size + 1 - n = m → 0 ≤ n → size ≤ 1000 → G.length + Fo.length ^ m ≤ 2^37 →
    Calls PP F.spec_l19Fill #[f.v, t.v, vI n, vI size, out.v] w fun e w' => ∃ s' H, e = .returned s'.v ∧ Filled w w' B out s' G H (fillV Fo m T n)
  | 0, w, B, Bf, Bt, f, t, out, rt, T, G, n, size, hf, ht, ho, hB, hTl, htot, hm, hn0, hn1, hG => by
    refine spec_l19Fill.calls f t n size out ?_
    rw [spec_l19Fill.E_s]
    refine bif_t (decide_eq_true (by omega)) ?_
    refine (c_l2Copy ht.row (by omega) (by omega)).mono ?_
    rintro e w1 ⟨c, rc, rfl, hc, hb1⟩
    refine ⟨c, rfl, ?_⟩
    have ho1 := ho.grow hb1
    refine append_s3 (g := ⟨c, rc, T⟩) ho1 (Nat.le_trans hB hb1.size) (hc.mono hB) (fun g hg x h1 h2 => by have := (ho.footLt (.inr ⟨g, hg, h1⟩)).2; have := (hc.footLt h2).1; omega) (by rw [Nat.pow_zero] at hG; omega) ?_
    intro s' w2 ho2 hg2 hn2
    refine ⟨s', [⟨c, rc, T⟩], rfl, ho2, by simp [fillV], fun g hg x hx => ?_, ?_, fun x hx => ?_⟩
    · simp at hg; subst hg; exact (hc.footLt hx).1
    · exact ((keeps_grown (grow_of_below hb1)).mono fun k e => (by cases e)).trans (keeps_grown hg2)
    · exact (hn2 x hx).imp id fun h => by have := hb1.size; omega
  | m + 1, w, B, Bf, Bt, f, t, out, rt, T, G, n, size, hf, ht, ho, hB, hTl, htot, hm, hn0, hn1, hG => by
    have hfn : f.n = Fo.length := by have := hf.n; simpa using this
    have htn := ht.n
    have hfp : Fo.length ^ (m + 1) = Fo.length * Fo.length ^ m := by rw [Nat.pow_succ, Nat.mul_comm]
    have hrow : ∀ r, r < T.length → (T.getD r []).length ≤ 100 := fun r hr => by
      have := len_le_tot (show T.getD r [] ∈ T by rw [getD_SS hr]; exact List.getElem_mem hr)
      omega
    refine spec_l19Fill.calls f t n size out ?_
    rw [spec_l19Fill.E_s]
    refine bif_f (decide_eq_false (by omega)) ?_
    refine spec_l19Fill.L4_rule _ _ _ _ _ _ _ _ (I := fun o r w' => 0 ≤ r ∧ r ≤ Fo.length ∧ ∃ H, Filled w w' B out o G H (fillR Fo m T n r.toNat)) (μ := fun _ r _ => (Fo.length - r).toNat)
      ⟨by omega, by omega, [], by simpa using ho, by simp [fillR], fun g hg => (by cases hg), Stp.refl _ _⟩ ?_
    rintro o r w1 ⟨hr0, hr, H, hO, hv, hnew, hst⟩
    have hk1 := hst.keeps
    have hf1 : OwnI w1 Bf f Fo := Own.keeps hf hk1 fun x h1 h2 => (ho.out.apt hf (Ne.symm ne_int_SSint)) x h2 h1
    have ht1 : OwnRows w1 Bt t rt T := ht.keepsF hk1 fun x h1 h2 => OwnRows.outer ho.out ht h2 h1
    have hB1 : B ≤ w1.heap.size := Nat.le_trans hB hk1.size
    have hHl : H.length = (fillR Fo m T n r.toNat).length := by rw [← hv]; simp
    have hHb := fillR_len Fo m T n r.toNat
    rw [spec_l19Fill.B4_s, hfn]
    refine bif_dec (fun h3 => ?_) (fun h3 => ?_)
    · have hltF : r.toNat < Fo.length := by omega
      have hltT : r.toNat < T.length := by omega
      have hRl := hrow r.toNat hltT
      have es : (r + 1).toNat = r.toNat + 1 := by omega
      have er : w64 (r + 1) = r + 1 := w64_succ hr0 (by omega)
      -- nothing is put in
      have stay : ∀ w2, Drew w1 w2 → ¬ okR Fo T r.toNat → ∃ o_n r_n, spec_l19Fill.emb4 f t n size o (w64 (r + 1)) = spec_l19Fill.emb4 f t n size o_n r_n ∧ (0 ≤ r_n ∧ r_n ≤ Fo.length ∧ ∃ H, Filled w w2 B out o_n G H (fillR Fo m T n r_n.toNat)) ∧ ((Fo.length : Int) - r_n).toNat < ((Fo.length : Int) - r).toNat := by
        intro w2 hd2 hno
        refine ⟨o, r + 1, by rw [er], ⟨by omega, by omega, H, ⟨hO.heap hd2.heap', ?_, hnew, hst.trans (Stp.grow (hd2.below _))⟩⟩, by omega⟩
        rw [es, fillR_succ, if_neg hno, List.append_nil]; exact hv
      -- a number is put in
      have step : ∀ w2, Drew w1 w2 → okR Fo T r.toNat → call1 .sl PP F.spec_l2Copy #[t.v] w2 fun (ρ : Sl) w3 => idxK 1 ρ r fun a5 => load1 .sl a5 w3 fun (ξ : Sl) => sem1 .sl PP (Instr.buildSlice T_Sint 1 #[(0, vI n)]) w3 fun (ρ7 : Sl) w4 =>
          sem1 .sl PP (Builtin.append_ #[T_Sint, T_Sint] T_Sint #[ξ.v, ρ7.v]) w4 fun (ρ9 : Sl) w5 => idxK 1 ρ r fun a6 => storeC a6 ρ9.v w5 fun w6 => call1 .sl PP F.spec_l19Fill #[f.v, ρ.v, vI (w64 (n + 1)), vI size, o.v] w6 fun (ρ23 : Sl) w7 =>
          ∃ o_n r_n, spec_l19Fill.emb4 f t n size ρ23 (w64 (r + 1)) = spec_l19Fill.emb4 f t n size o_n r_n ∧ (0 ≤ r_n ∧ r_n ≤ Fo.length ∧ ∃ H, Filled w w7 B out o_n G H (fillR Fo m T n r_n.toNat)) ∧ ((Fo.length : Int) - r_n).toNat < ((Fo.length : Int) - r).toNat := by
        intro w2 hd2 hok
        have hh := hd2.heap'
        have hst2 : Stp w w2 (fun x => out.blk = some x) (fun x => o.blk = some x) := hst.trans (Stp.grow (hd2.below _))
        refine (c_l2Copy (ht1.heap hh).row (by omega) (by omega)).mono ?_
        rintro e w3 ⟨c, rc, rfl, hc, hb3⟩
        refine ⟨c, rfl, ?_⟩
        refine hc.appendAtF hr0 (by omega) hb3.size (by omega) fun w6 rc' hc6 hst6 => ?_
        have hb26 : Below w2.heap.size w2 w6 := hb3.trans (hst6.below (fun g hg => (hc.footLt hg).1) hb3.size)
        have hO6 := (hO.heap hh).grow hb26
        have hf6 := Own.grow (Own.heap hf1 hh) hb26
        have hB2 : B ≤ w2.heap.size := by rw [hh]; exact hB1
        rw [w64_add (a := n) (b := 1) (by omega) (by omega) (by omega) (by omega)]
        have hX : (r.toNat + 1) * Fo.length ^ m ≤ Fo.length * Fo.length ^ m := Nat.mul_le_mul_right _ (by omega)
        have hX2 : (r.toNat + 1) * Fo.length ^ m = r.toNat * Fo.length ^ m + Fo.length ^ m := by rw [Nat.add_mul, Nat.one_mul]
        have htt := tot_set hltT (T.getD r.toNat [] ++ [n])
        rw [List.length_append, List.length_singleton] at htt
        refine (c_l19Fill hF m (n + 1) size hf6 hc6 hO6 (Nat.le_trans hB2 hb26.size) (by rw [List.length_set]; exact hTl) (by omega) (by omega) (by omega) (by omega) (by rw [List.length_append]; omega)).mono ?_
        rintro e w7 ⟨s', H2, rfl, h7⟩
        refine ⟨s', rfl, s', r + 1, by rw [er], ⟨by omega, by omega, H ++ H2, ⟨by rw [← List.append_assoc]; exact h7.own, ?_, fun g hg x hx => ?_, (hst2.trans (Stp.grow hb26)).trans h7.stp⟩⟩, by omega⟩
        · rw [es, fillR_succ, if_pos hok, ← hv, ← h7.val]; simp
        · rcases List.mem_append.1 hg with hg | hg
          · exact hnew g hg x hx
          · have := h7.new g hg x hx; have := hb26.size; have := hst2.keeps.size; omega
      refine ht1.load hr0 (by omega) fun ρ _ hρ => ?_
      have hρn : ρ.n = (T.getD r.toNat []).length := by have := hρ.n; simpa using this
      refine RowI.get hf1.row hr0 (by omega) ?_
      rw [hρn]
      refine bif_dec (fun h4 => ?_) (fun h4 => ?_)
      · refine bif_intro (fun h5 => ?_) (fun h5 => ?_)
        · have h5' : r = 0 := eq_of_beq h5
          refine drew_intro fun w2 hd2 => ?_
          exact step w2 hd2 ⟨h4, .inl (by omega)⟩
        · have h5' : r ≠ 0 := ne_of_beq_false h5
          have e1 : w64 (r - 1) = r - 1 := w64_id (by omega) (by omega)
          rw [e1]
          refine ht1.load hr0 (by omega) fun ρ2 _ hρ2 => ?_
          have hρ2n : ρ2.n = (T.getD r.toNat []).length := by have := hρ2.n; simpa using this
          refine ht1.load (i := r - 1) (by omega) (by omega) fun ρ3 _ hρ3 => ?_
          have hρ3n : ρ3.n = (T.getD (r - 1).toNat []).length := by have := hρ3.n; simpa using this
          rw [hρ2n, hρ3n, show (r - 1).toNat = r.toNat - 1 by omega]
          refine drew_intro fun w2 hd2 => ?_
          refine bif_dec (fun h6 => ?_) (fun h6 => ?_)
          · exact step w2 hd2 ⟨h4, .inr (by omega)⟩
          · exact stay w2 hd2 fun hh => by rcases hh.2 with h7 | h7 <;> omega
      · refine drew_intro fun w2 hd2 => ?_
        exact stay w2 hd2 fun hh => h4 hh.1
    · rw [spec_l19Fill.A4_0_s]
      refine ⟨o, H, rfl, hO, ?_, hnew, hst⟩
      rw [fillV_succ, show Fo.length = r.toNat by omega]; exact hv
open Classical in
noncomputable def TableauxOfV (Fo : List Int) : List (List (List Int)) := if FormOk Fo 6 then fillV Fo (sm Fo Fo.length).toNat (List.replicate Fo.length []) 1 else []
theorem formOk_facts {Fo : List Int} (h : FormOk Fo 6) : Fo.length ≤ 6 ∧ 0 ≤ sm Fo Fo.length ∧ sm Fo Fo.length ≤ 6 ∧ ∀ k, k ≤ Fo.length → 0 ≤ sm Fo k ∧ sm Fo k ≤ 6 := by
  have h1 := sm_ge (L := Fo) (k := Fo.length) fun j hj => (h j hj).1
  have h2 : ∀ k, k ≤ Fo.length → 0 ≤ sm Fo k ∧ sm Fo k ≤ 6 := fun k hk => by
    have h3 := sm_ge (L := Fo) (k := k) fun j hj => (h j (by omega)).1
    refine ⟨by omega, ?_⟩
    cases k with
    | zero => simp [sm]
    | succ k => have := (h k (by omega)).2.1; rw [sm]; exact this
  have := h2 Fo.length (Nat.le_refl _)
  exact ⟨by omega, by omega, this.2, h2⟩
theorem pow_small {a m : Nat} (ha : a ≤ 6) (hm : m ≤ 6) : a ^ m ≤ 46656 := Nat.le_trans (Nat.pow_le_pow_left ha m) (Nat.pow_le_pow_right (by omega) hm)
theorem tot_replicate (k : Nat) : tot (List.replicate k []) = 0 := by simp [tot]
open Classical in
theorem c_specTableauxOf {w : World} {Bf : Nat} {f : Sl} {Fo : List Int} (hf : OwnI w Bf f Fo) (hL : Fo.length < 2^38) :
    Calls PP F.spec_TableauxOf #[f.v] w fun e w' => ∃ (s : Sl) (G : List Grp), e = .returned s.v ∧ OwnS3 w' w.heap.size s G ∧ vals G = TableauxOfV Fo ∧ Below w.heap.size w w' := by
  have hfn : f.n = Fo.length := by have := hf.n; simpa using this
  refine spec_TableauxOf.calls f ?_
  rw [spec_TableauxOf.E_s]
  refine lit0 oneS3 (B := w.heap.size) (Nat.le_refl _) ?_
  intro o w1 ho hg1 hoc
  have hb1 := below_of_grow hg1
  refine Quiet.call1 (s := .bool) (c_l19Form (hf.row.grow hb1) (by omega) (most := 6) (by omega) (by omega)) ?_
  intro w2 hd2
  have hb2 := hb1.trans (hd2.below _)
  have hO2 := (OwnS3.nil ho).heap hd2.heap'
  refine bif_intro (fun h => ?_) (fun h => ?_)
  · have hn : ¬ FormOk Fo 6 := by simpa using h
    rw [TableauxOfV, if_neg hn]
    exact ⟨o, [], rfl, hO2, rfl, hb2⟩
  have hP : FormOk Fo 6 := by simpa using h
  rw [TableauxOfV, if_pos hP]
  obtain ⟨f1, f2, f3, f4⟩ := formOk_facts hP
  refine lit0 oneSint (B := w.heap.size) hb2.size ?_
  intro t0 w3 ht0 hg3 htc
  have hb3 := below_of_grow hg3
  have hb03 := hb2.trans (hb3.mono hb2.size)
  refine spec_TableauxOf.L7_rule _ _ _ _ _ _ _ (I := fun t z r w' => 0 ≤ r ∧ r ≤ Fo.length ∧ z = sm Fo r.toNat ∧ Below w.heap.size w w' ∧ OwnS3 w' w.heap.size o [] ∧ ∃ rt, OwnRows w' w.heap.size t rt (List.replicate r.toNat [])) (μ := fun _ _ r _ => (Fo.length - r).toNat)
    ⟨by omega, by omega, rfl, hb03, hO2.grow hb3, [], OwnRows.nil ht0⟩ ?_
  rintro t z r w4 ⟨hr0, hr, rfl, hb4, hO4, rt, ht4⟩
  rw [spec_TableauxOf.B7_s, hfn]
  refine bif_dec (fun h3 => ?_) (fun h3 => ?_)
  · refine lit0 oneInt hb4.size ?_
    intro e5 w5 he5 hg5 hec
    have hb5 := below_of_grow hg5
    refine ht4.pushF hb5 hb4.size (r := e5) (L := []) (by simpa [OwnI] using he5) (fun g hg => by simp [Sl.blk, hec] at hg) (by rw [List.length_replicate]; omega) ?_
    intro t6 w6 ht6 hst6
    have hb46 : Below w.heap.size w4 w6 := hst6.below (fun g hg => (ht4.footLt hg).1) hb4.size
    have hb06 := hb4.trans hb46
    have hO6 : OwnS3 w6 w.heap.size o [] := hO4.keepsF hst6.keeps fun x h5 h6 => by
      rcases h5 with h5 | ⟨g, hg, _⟩
      · exact OwnRows.outer hO4.out ht4 h5 h6
      · cases hg
    have hf6 := hf.row.grow hb06
    refine RowI.get hf6 hr0 (by omega) ?_
    have h7 := f4 r.toNat (by omega)
    have h8 := f4 (r.toNat + 1) (by omega)
    rw [sm] at h8
    refine ⟨t6, _, r + 1, by rw [w64_succ hr0 (by omega), w64_id (by omega) (by omega)], ⟨by omega, by omega, by rw [show (r + 1).toNat = r.toNat + 1 by omega, sm], hb06, hO6, rt ++ [e5], ?_⟩, by omega⟩
    rw [show (r + 1).toNat = r.toNat + 1 by omega, List.replicate_succ']; exact ht6
  · rw [spec_TableauxOf.A7_0_s]
    rw [show r.toNat = Fo.length by omega] at ht4 ⊢
    obtain ⟨mN, hm⟩ : ∃ mN : Nat, sm Fo Fo.length = mN := ⟨(sm Fo Fo.length).toNat, by omega⟩
    rw [hm, Int.toNat_natCast]
    have hf4 : OwnI w4 Bf f Fo := Own.grow hf hb4
    refine (c_l19Fill (Fo := Fo) (by omega) mN 1 mN hf4 ht4 hO4 hb4.size (by rw [List.length_replicate]) (by rw [tot_replicate]; omega) (by omega) (by omega) (by omega) (by have := pow_small (a := Fo.length) (m := mN) f1 (by omega); simp; omega)).mono ?_
    rintro e w5 ⟨s', H, rfl, h5⟩
    refine ⟨s', rfl, s', H, rfl, by simpa using h5.own, h5.val, hb4.trans (h5.stp.below (fun g hg => (hO4.out.lt g hg).1) hb4.size)⟩
end Go.Proofs.Ytfainpmcdfckkaa
