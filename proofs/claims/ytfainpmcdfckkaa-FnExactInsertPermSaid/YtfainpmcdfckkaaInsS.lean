/- InsertPerm: the model's text. -/
import Derived.Test.YtfainpmcdfckkaaCodeI
import Derived.Test.YtfainpmcdfckkaaFoot
import Derived.Test.YtfainpmcdfckkaaInsMath
import Derived.Test.YtfainpmcdfckkaaPerm
namespace Go.Proofs.Ytfainpmcdfckkaa
open Go Go.RowKit
set_option maxRecDepth 100000

theorem c_l19Put {w : World} {B : Nat} {t : Sl} {rs : List Sl} {T : List (List Int)} (h : OwnRows w B t rs T) (hB : B ≤ w.heap.size) (hT : T.length < 2^38) (hR : ∀ R ∈ T, R.length < 2^38) (n : Int) :
    Calls PP F.spec_l19Put #[t.v, vI n] w fun e w' => ∃ t' rs', e = .returned (.tuple #[t'.v, vI (tabRow T n)]) ∧ OwnRows w' B t' rs' (tabIns T n) ∧ Stp w w' (foot t rs) (foot t' rs') := by
  refine spec_l19Put.calls t n ?_
  rw [spec_l19Put.E_s]
  refine spec_l19Put.L2_rule _ _ _ _ _ (I := fun v r w' => 0 ≤ r ∧ r ≤ T.length ∧ ∃ T1, T1.length = T.length ∧ (∀ R ∈ T1, R.length < 2^38) ∧ OwnRows w' B t rs T1 ∧ B ≤ w'.heap.size ∧ Stp w w' (foot t rs) (foot t rs) ∧ T1.take r.toNat ++ tabIns (T1.drop r.toNat) v = tabIns T n ∧ r.toNat + tabRow (T1.drop r.toNat) v = tabRow T n)
    (μ := fun _ r _ => (T.length - r).toNat) ⟨by omega, by omega, T, rfl, hR, h, hB, Stp.refl _ _, by simp, by simp⟩ ?_
  rintro v r w' ⟨h0, hr, T1, hl, hR1, ho, hB1, hs, e1, e2⟩
  have hn := ho.n
  rw [spec_l19Put.B2_s, hn]
  refine bif_dec (fun h3 => ?_) (fun h3 => ?_)
  · have hr1 : r.toNat < T1.length := by omega
    have hRl : (T1.getD r.toNat []).length < 2^38 := hR1 _ (by rw [getD_SS hr1]; exact List.getElem_mem hr1)
    have hple := rpos_le (T1.getD r.toNat []) v
    refine spec_l19Put.L5_rule _ _ _ _ _ _ (I := fun c w2 => w2 = w' ∧ 0 ≤ c ∧ c ≤ rpos (T1.getD r.toNat []) v) (μ := fun c _ => (rpos (T1.getD r.toNat []) v + 1 - c).toNat) ⟨rfl, by omega, by omega⟩ ?_
    rintro c w2 ⟨rfl, hc0, hc⟩
    rw [spec_l19Put.B5_s]
    refine ho.load h0 (by omega) fun ρ _ hρ => ?_
    have hρn : ρ.n = (T1.getD r.toNat []).length := by have := hρ.n; simpa using this
    rw [hρn]
    -- behind the search
    have fin : c = rpos (T1.getD r.toNat []) v → spec_l19Put.q5 std (fun e2 w2 => ∃ n_1_n r_6_n, e2 = spec_l19Put.emb2 t n_1_n r_6_n ∧ (0 ≤ r_6_n ∧ r_6_n ≤ T.length ∧ ∃ T1, T1.length = T.length ∧ (∀ R ∈ T1, R.length < 2^38) ∧ OwnRows w2 B t rs T1 ∧ B ≤ w2.heap.size ∧ Stp w w2 (foot t rs) (foot t rs) ∧ T1.take r_6_n.toNat ++ tabIns (T1.drop r_6_n.toNat) n_1_n = tabIns T n ∧ r_6_n.toNat + tabRow (T1.drop r_6_n.toNat) n_1_n = tabRow T n) ∧ ((T.length : Int) - r_6_n).toNat < ((T.length : Int) - r).toNat) (spec_l19Put.q1 std fun e w' => ∃ t' rs', e = .returned (.tuple #[t'.v, vI (tabRow T n)]) ∧ OwnRows w' B t' rs' (tabIns T n) ∧ Stp w w' (foot t rs) (foot t' rs')) (.exit 2) (spec_l19Put.x2 t v r c) w2 := by
      intro hcp
      rw [spec_l19Put.A5_2_s]
      refine ho.load h0 (by omega) fun ρ _ hρ => ?_
      have hρn : ρ.n = (T1.getD r.toNat []).length := by have := hρ.n; simpa using this
      rw [hρn]
      refine bif_intro (fun h4 => ?_) (fun h4 => ?_)
      · have h4' : ¬ rpos (T1.getD r.toNat []) v < (T1.getD r.toNat []).length := by have := eq_of_beq h4; omega
        obtain ⟨k1, k2⟩ := tabIns_last hr1 h4'
        refine ho.appendAtF h0 (by omega) hB1 (by omega) fun w3 rs' ho3 hs3 => ?_
        rw [spec_l19Put.R2_s]
        refine ⟨t, rs', ?_, ?_, hs.trans hs3⟩
        · rw [← e2, k2]; congr 5; simp; omega
        · rw [← e1, k1]; exact ho3
      · have h4' : rpos (T1.getD r.toNat []) v < (T1.getD r.toNat []).length := by have := ne_of_beq_false h4; omega
        obtain ⟨k1, k2⟩ := tabIns_step hr1 h4'
        refine ho.load h0 (by omega) fun ρ2 _ hρ2 => ?_
        refine hρ2.row.get (sh := .int .i64) (r := (T1.getD r.toNat []).getD c.toNat 0) hc0 ?_ ?_
        · rw [List.getElem?_map, List.getElem?_eq_getElem (by omega), Option.map_some, getD_lt (by omega)]
        refine ho.setAtF h0 (by omega) hc0 (by omega) fun w3 ho3 hs3 hz3 => ?_
        have hcn : c.toNat = rpos (T1.getD r.toNat []) v := by omega
        rw [hcn] at ho3 ⊢
        refine ⟨_, r + 1, by rw [w64_succ h0 (by omega)], ⟨by omega, by omega, _, by rw [List.length_set]; exact hl, ?_, ho3, by omega, hs.trans hs3, ?_, ?_⟩, by omega⟩
        · intro R hR'
          rcases List.mem_or_eq_of_mem_set hR' with hR' | rfl
          · exact hR1 R hR'
          · rw [List.length_set]; exact hRl
        · rw [show (r + 1).toNat = r.toNat + 1 by omega, ← e1, k1]
        · rw [show (r + 1).toNat = r.toNat + 1 by omega, ← e2, k2]; omega
    refine bif_dec (fun h4 => ?_) (fun h4 => ?_)
    · refine ho.load h0 (by omega) fun ρ2 _ hρ2 => ?_
      refine hρ2.row.get (sh := .int .i64) (r := (T1.getD r.toNat []).getD c.toNat 0) hc0 ?_ ?_
      · rw [List.getElem?_map, List.getElem?_eq_getElem (by omega), Option.map_some, getD_lt (by omega)]
      refine bif_dec (fun h5 => ?_) (fun h5 => ?_)
      · refine ⟨c + 1, by rw [w64_succ hc0 (by omega)], ⟨rfl, by omega, ?_⟩, by omega⟩
        rcases Int.lt_or_le c (rpos (T1.getD r.toNat []) v) with h6 | h6
        · omega
        · have : c.toNat = rpos (T1.getD r.toNat []) v := by omega
          rw [this] at h5
          have := rpos_ge (T1.getD r.toNat []) v (by omega)
          omega
      · refine fin ?_
        rcases Int.lt_or_le c (rpos (T1.getD r.toNat []) v) with h6 | h6
        · have := rpos_lt (T1.getD r.toNat []) v c.toNat (by omega)
          omega
        · omega
    · refine fin (by omega)
  · have hrl : r.toNat = T1.length := by omega
    rw [spec_l19Put.A2_0_s]
    rw [hrl] at e1 e2
    simp only [List.take_length, List.drop_length, tabIns, tabRow, Nat.add_zero] at e1 e2
    refine lit1 oneInt hB1 (One.int v) ?_
    intro ρ w2 hρ hg2 hn2
    have hb2 := below_of_grow hg2
    refine ho.pushF hb2 hB1 (r := ρ) (L := [v]) (by simpa [OwnI] using hρ) (fun g hg => ?_) (by omega) ?_
    · rcases hn2 g hg with h4 | h4
      · simp [Sl.blk, Sl.nil] at h4
      · exact h4
    intro s' w3 ho3 hs3
    refine ⟨s', _, ?_, by rw [← e1]; exact ho3, hs.trans hs3⟩
    rw [hn, ← e2]
theorem c_l19Insert {w : World} {a : Sl} {L : List Int} (ha : RowI w a L) (hL : L.length < 2^30) :
    Calls PP F.spec_l19Insert #[a.v] w fun e w' => ∃ (s t : Sl) (rs rt : List Sl), e = .returned (.tuple #[s.v, t.v]) ∧ OwnRows w' w.heap.size s rs (insP L) ∧ OwnRows w' w.heap.size t rt (insQ L L.length) ∧ (∀ g, foot s rs g → ¬ foot t rt g) ∧ Below w.heap.size w w' := by
  have han : a.n = L.length := by have := ha.n; simpa using this
  refine spec_l19Insert.calls a ?_
  rw [spec_l19Insert.E_s]
  refine lit0 oneSint (B := w.heap.size) (Nat.le_refl _) ?_
  intro s0 w1 hs0 hg1 hc1
  have hb1 := below_of_grow hg1
  refine lit0 oneSint (B := w.heap.size) hb1.size ?_
  intro t0 w2 ht0 hg2 hc2
  have hb2 := below_of_grow hg2
  have hb02 := hb1.trans (hb2.mono hb1.size)
  refine spec_l19Insert.L4_rule _ _ _ _ _ _ (I := fun s t k w' => 0 ≤ k ∧ k ≤ L.length ∧ Below w.heap.size w w' ∧ ∃ rs rt, OwnRows w' w.heap.size s rs (insP (L.take k.toNat)) ∧ OwnRows w' w.heap.size t rt (insQ L k.toNat) ∧ (∀ g, foot s rs g → ¬ foot t rt g))
    (μ := fun _ _ k _ => (L.length - k).toNat) ⟨by omega, by omega, hb02, [], [], (OwnRows.nil hs0).grow hb2, OwnRows.nil ht0, fun g hg => ?_⟩ ?_
  · simp [foot, Sl.blk, hc1] at hg
  rintro s t k w' ⟨h0, hk, hb, rs, rt, hs, ht, hd⟩
  rw [spec_l19Insert.B4_s, han]
  refine bif_dec (fun h3 => ?_) (fun h3 => ?_)
  · have hlt : k.toNat < L.length := by omega
    refine RowI.get (ha.grow hb) h0 (by omega) ?_
    have hPl := insP_flat (L.take k.toNat)
    rw [List.length_take] at hPl
    have hPn : (insP (L.take k.toNat)).length ≤ k.toNat := by
      have h1 := insQ_length L k.toNat (by omega)
      rw [← h1]
      have : ∀ m, (insQ L m).length ≤ m := by
        intro m
        induction m with
        | zero => simp [insQ]
        | succ m ih => rw [insQ, addAt]; split <;> simp <;> omega
      exact this _
    have hQn := insQ_length L k.toNat (by omega)
    have hr := tabIns_length (insP (L.take k.toNat)) (L.getD k.toNat 0)
    have eP : tabIns (insP (L.take k.toNat)) (L.getD k.toNat 0) = insP (L.take (k + 1).toNat) := by
      rw [show (k + 1).toNat = k.toNat + 1 by omega, ← insP_snoc, getD_lt hlt]; simp
    have eQ : insQ L (k + 1).toNat = addAt (insQ L k.toNat) (tabRow (insP (L.take k.toNat)) (L.getD k.toNat 0)) (k + 1) := by
      rw [show (k + 1).toNat = k.toNat + 1 by omega, insQ]; congr 1; omega
    refine (c_l19Put hs hb.size (by omega) (fun R hR => by have := flat_tab hR; omega) _).mono ?_
    rintro e w3 ⟨s', rs', rfl, hs', hst⟩
    refine ⟨s', _, rfl, ?_⟩
    rw [eP] at hs'
    have hb3 : Below w.heap.size w' w3 := hst.below (fun g hg => (hs.footLt hg).1) hb.size
    have hb03 := hb.trans hb3
    have ht3 : OwnRows w3 w.heap.size t rt (insQ L k.toNat) := ht.keepsF hst.keeps fun g h1 h2 => hd g h2 h1
    have hd3 : ∀ g, foot s' rs' g → ¬ foot t rt g := hst.apart (fun g hg => (ht.footLt hg).2) hd
    rw [ht3.n]
    -- behind the new row
    have fin : ∀ (w4 : World) (t4 : Sl) (rt4 : List Sl) (Q4 : List (List Int)), Below w.heap.size w w4 → OwnRows w4 w.heap.size s' rs' (insP (L.take (k + 1).toNat)) → OwnRows w4 w.heap.size t4 rt4 Q4 → (∀ g, foot s' rs' g → ¬ foot t4 rt4 g) →
        tabRow (insP (L.take k.toNat)) (L.getD k.toNat 0) < Q4.length → (Q4.getD (tabRow (insP (L.take k.toNat)) (L.getD k.toNat 0)) []).length < 2^38 → Q4.set (tabRow (insP (L.take k.toNat)) (L.getD k.toNat 0)) (Q4.getD (tabRow (insP (L.take k.toNat)) (L.getD k.toNat 0)) [] ++ [k + 1]) = insQ L (k + 1).toNat →
        spec_l19Insert.J10 std a s' t4 k (tabRow (insP (L.take k.toNat)) (L.getD k.toNat 0)) w4 (fun e2 w2 => ∃ a_4_n b_5_n k_6_n, e2 = spec_l19Insert.emb4 a a_4_n b_5_n k_6_n ∧ (0 ≤ k_6_n ∧ k_6_n ≤ L.length ∧ Below w.heap.size w w2 ∧ ∃ rs rt, OwnRows w2 w.heap.size a_4_n rs (insP (L.take k_6_n.toNat)) ∧ OwnRows w2 w.heap.size b_5_n rt (insQ L k_6_n.toNat) ∧ (∀ g, foot a_4_n rs g → ¬ foot b_5_n rt g)) ∧ ((L.length : Int) - k_6_n).toNat < ((L.length : Int) - k).toNat) (spec_l19Insert.q5 std fun e w' => ∃ (s t : Sl) (rs rt : List Sl), e = .returned (.tuple #[s.v, t.v]) ∧ OwnRows w' w.heap.size s rs (insP L) ∧ OwnRows w' w.heap.size t rt (insQ L L.length) ∧ (∀ g, foot s rs g → ¬ foot t rt g) ∧ Below w.heap.size w w') := by
      intro w4 t4 rt4 Q4 hb4 hs4 ht4 hd4 hq hql heq
      rw [spec_l19Insert.J10_s, w64_succ h0 (by omega)]
      refine ht4.appendAtF (i := (tabRow (insP (L.take k.toNat)) (L.getD k.toNat 0) : Int)) (by omega) (by omega) hb4.size (by simpa using Nat.lt_trans hql (by decide)) fun w5 rt5 ht5 hst5 => ?_
      refine ⟨s', t4, k + 1, rfl, ⟨by omega, by omega, hb4.trans (hst5.below (fun g hg => (ht4.footLt hg).1) hb4.size), rs', rt5, ?_, ?_, ?_⟩, by omega⟩
      · exact hs4.keepsF hst5.keeps fun g h1 h2 => hd4 g h1 h2
      · rw [Int.toNat_natCast, heq] at ht5; exact ht5
      · intro g h1 h2
        exact hst5.apart (F := foot s' rs') (fun g hg => (hs4.footLt hg).2) (fun g h3 h4 => hd4 g h4 h3) g h2 h1
    have hQ : ∀ M ∈ insQ L k.toNat, M.length < 2^38 := by
      have : ∀ m, ∀ M ∈ insQ L m, M.length ≤ m := by
        intro m
        induction m with
        | zero => intro M hM; simp [insQ] at hM
        | succ m ih =>
          intro M hM
          rw [insQ, addAt] at hM
          split at hM
          · rename_i hlt
            rcases List.mem_or_eq_of_mem_set hM with hM | rfl
            · have := ih M hM; omega
            · have := ih _ (show (insQ L m).getD (tabRow (insP (L.take m)) (L.getD m 0)) [] ∈ insQ L m by rw [getD_SS hlt]; exact List.getElem_mem hlt)
              simp at this ⊢; omega
          · rcases List.mem_append.1 hM with hM | hM
            · have := ih M hM; omega
            · simp at hM; subst hM; simp
      intro M hM
      have := this _ M hM; omega
    refine bif_intro (fun h4 => ?_) (fun h4 => ?_)
    · have h4' : tabRow (insP (L.take k.toNat)) (L.getD k.toNat 0) = (insQ L k.toNat).length := by have := eq_of_beq h4; omega
      refine lit0 oneInt hb03.size ?_
      intro ρ w4 hρ hg4 hc4
      have hb4 := below_of_grow hg4
      refine ht3.pushF hb4 hb03.size (r := ρ) (L := []) (by simpa [OwnI] using hρ) (fun g hg => ?_) (by omega) ?_
      · simp [Sl.blk, hc4] at hg
      intro t5 w5 ht5 hst5
      refine fin w5 t5 _ _ (hb03.trans (hst5.below (fun g hg => (ht3.footLt hg).1) hb03.size)) (hs'.keepsF hst5.keeps fun g h1 h2 => hd3 g h1 h2) ht5 (fun g h1 h2 => hst5.apart (F := foot s' rs') (fun g hg => (hs'.footLt hg).2) (fun g h3 h4 => hd3 g h4 h3) g h2 h1) (by rw [List.length_append, List.length_singleton]; omega) ?_ ?_
      · rw [h4']; simp
      · rw [eQ, addAt, if_neg (by omega), h4']; simp
    · have h4' : tabRow (insP (L.take k.toNat)) (L.getD k.toNat 0) < (insQ L k.toNat).length := by have := ne_of_beq_false h4; omega
      refine fin w3 t rt _ hb03 hs' ht3 hd3 h4' (hQ _ (by rw [getD_SS h4']; exact List.getElem_mem h4')) ?_
      rw [eQ, addAt, if_pos h4']
  · rw [spec_l19Insert.A4_0_s]
    have e : k.toNat = L.length := by omega
    rw [e, List.take_length] at hs
    rw [e] at ht
    exact ⟨s, t, rs, rt, rfl, hs, ht, hd, hb⟩
open Classical in
noncomputable def InsertPermV (L : List Int) : List (List Int) := if IsP L then insP L else []
open Classical in
noncomputable def InsertPermV1 (L : List Int) : List (List Int) := if IsP L then insQ L L.length else []
open Classical in
noncomputable def InsertPermV2 (L : List Int) : Bool := decide (IsP L)
open Classical in
theorem c_specInsertPermO {w : World} {a : Sl} {L : List Int} (ha : RowI w a L) (hL : L.length < 2^38) :
    Calls PP F.spec_InsertPerm #[a.v] w fun e w' => ∃ (s t : Sl) (rs rt : List Sl), e = .returned (.tuple #[s.v, t.v, .bool (InsertPermV2 L)]) ∧ OwnRows w' w.heap.size s rs (InsertPermV L) ∧ OwnRows w' w.heap.size t rt (InsertPermV1 L) ∧ (∀ g, foot s rs g → ¬ foot t rt g) ∧ Below w.heap.size w w' := by
  refine spec_InsertPerm.calls a ?_
  rw [spec_InsertPerm.E_s]
  refine Quiet.call1 (s := .bool) (c_specIsPerm ha hL) ?_
  intro w1 hd1
  have hb1 := hd1.below w.heap.size
  refine bif_intro (fun h => ?_) (fun h => ?_)
  · have hn : ¬ IsP L := fun hh => by simp [hh] at h
    refine lit0 oneSint (B := w.heap.size) hb1.size ?_
    intro s0 w2 hs0 hg2 hc2
    have hb2 := below_of_grow hg2
    have hb02 := hb1.trans (hb2.mono hb1.size)
    refine lit0 oneSint (B := w.heap.size) hb02.size ?_
    intro t0 w3 ht0 hg3 hc3
    have hb3 := below_of_grow hg3
    refine ⟨s0, t0, [], [], ?_⟩
    rw [InsertPermV, InsertPermV1, InsertPermV2, if_neg hn, if_neg hn, decide_eq_false hn]
    exact ⟨rfl, (OwnRows.nil hs0).grow hb3, OwnRows.nil ht0, fun g hg => by simp [foot, Sl.blk, hc2] at hg, hb02.trans (hb3.mono hb02.size)⟩
  · have hP : IsP L := by simpa using h
    refine (c_l19Insert (ha.grow hb1) (by have := hP.1; omega)).mono ?_
    rintro e w2 ⟨s, t, rs, rt, rfl, h1, h2, h3, h4⟩
    refine ⟨s, t, rfl, s, t, rs, rt, ?_⟩
    rw [InsertPermV, InsertPermV1, InsertPermV2, if_pos hP, if_pos hP, decide_eq_true hP]
    exact ⟨rfl, h1.mono hb1.size, h2.mono hb1.size, h3, hb1.trans (h4.mono hb1.size)⟩
open Classical in
theorem c_specInsertPerm {w : World} {a : Sl} {L : List Int} (ha : RowI w a L) (hL : L.length < 2^38) :
    Calls PP F.spec_InsertPerm #[a.v] w fun e w' => ∃ (s t : Sl), e = .returned (.tuple #[s.v, t.v, .bool (InsertPermV2 L)]) ∧ RowSS w' s (InsertPermV L) ∧ RowSS w' t (InsertPermV1 L) ∧ Below w.heap.size w w' :=
  (c_specInsertPermO ha hL).mono fun _ _ ⟨s, t, _, _, h1, h2, h3, _, h4⟩ => ⟨s, t, h1, h2.row, h3.row, h4⟩
theorem insP_tot {L : List Int} (h : IsP L) : (InsertPermV L).length < 2^38 ∧ tot (InsertPermV L) < 2^38 := by
  rw [InsertPermV, if_pos h]
  have h1 := insP_flat L
  rw [List.length_flatten] at h1
  have h2 : (insP L).length = (insQ L L.length).length := by rw [insQ_length L _ (Nat.le_refl _), List.take_length]
  have h3 : ∀ m, (insQ L m).length ≤ m := by
    intro m
    induction m with
    | zero => simp [insQ]
    | succ m ih => rw [insQ, addAt]; split <;> simp <;> omega
  have := h3 L.length
  have := h.1
  exact ⟨by omega, by unfold tot; omega⟩
end Go.Proofs.Ytfainpmcdfckkaa
