/- WilfGroups: both texts, and the law. -/
import Derived.Test.YtmhgjfahgemblaaCodeWg
import Derived.Test.YtmhgjfahgemblaaWgMath
import Derived.Test.YtmhgjfahgemblaaPairG
import Derived.Test.YtmhgjfahgemblaaSame
import Derived.Test.YtmhgjfahgemblaaEq
import Derived.Test.YtmhgjfahgemblaaFuS
namespace Go.Proofs.Ytmhgjfahgemblaa
open Go Go.RowKit
set_option maxRecDepth 100000

theorem vals_get {G : List Grp} {a : Nat} (h : a < G.length) : ∃ g, G[a]? = some g ∧ (vals G).getD a [] = g.LL := ⟨G[a], List.getElem?_eq_getElem h, getD_vals h⟩
theorem wgA_eq {n : Int} {C : List (List Int)} {p : List Int} {a : Nat} (ha : a ≤ C.length) (h : ∀ j (hj : j < C.length), j < a → C[j] ≠ ClassCountsV [p] n) (h2 : ∀ hj : a < C.length, C[a] = ClassCountsV [p] n) : wgA n C p = a := by
  classical
  unfold wgA
  by_cases hlt : a < C.length
  · rw [List.findIdx_eq hlt]
    exact ⟨decide_eq_true (h2 hlt), fun j hj => decide_eq_false (h j (by omega) hj)⟩
  · have e : a = C.length := by omega
    subst e
    rw [List.findIdx_eq_length]
    intro x hx
    obtain ⟨j, hj, rfl⟩ := List.getElem_of_mem hx
    exact decide_eq_false (h j hj hj)
theorem c_specWilfGroups {w : World} (k n : Int) :
    Calls PP F.spec_WilfGroups #[vI k, vI n] w fun e w' => ∃ (s : Sl) (G : List Grp), e = .returned s.v ∧ OwnS3 w' w.heap.size s G ∧ vals G = WilfGroupsV k n ∧ Below w.heap.size w w' := by
  classical
  refine spec_WilfGroups.calls k n ?_
  rw [spec_WilfGroups.E_s]
  refine lit0 oneS3 (B := w.heap.size) (Nat.le_refl _) ?_
  intro o0 w1 ho0 hg1 hoc
  have hb1 := below_of_grow hg1
  refine Pure.pcall1 (s := .bool) (c_l1In k 1 4) ?_
  refine bif_intro (fun h => ?_) (fun h => ?_)
  · have hn : ¬ (1 ≤ k ∧ k ≤ 4 ∧ 0 ≤ n ∧ n ≤ 6) := fun hh => by simp at h; omega
    rw [WilfGroupsV, if_neg hn]
    exact ⟨o0, [], rfl, OwnS3.nil ho0, rfl, hb1⟩
  have hk : 1 ≤ k ∧ k ≤ 4 := by simp at h; omega
  refine Pure.pcall1 (s := .bool) (c_l1In n 0 6) ?_
  refine bif_intro (fun h => ?_) (fun h => ?_)
  · have hn : ¬ (1 ≤ k ∧ k ≤ 4 ∧ 0 ≤ n ∧ n ≤ 6) := fun hh => by simp at h; omega
    rw [WilfGroupsV, if_neg hn]
    exact ⟨o0, [], rfl, OwnS3.nil ho0, rfl, hb1⟩
  have hn : 0 ≤ n ∧ n ≤ 6 := by simp at h; omega
  rw [WilfGroupsV, if_pos ⟨hk.1, hk.2, hn.1, hn.2⟩]
  refine lit0 oneSint (B := w.heap.size) hb1.size ?_
  intro c0 w2 hc0 hg2 hcc
  have hb2 := below_of_grow hg2
  have hb02 := hb1.trans (hb2.mono hb1.size)
  refine (c_PermsOf k).mono ?_
  rintro e w3 ⟨all, rfl, ⟨rp, hall⟩, hb3⟩
  refine ⟨all, rfl, ?_⟩
  rw [PermsV, if_pos (by omega)] at hall
  have hb03 := hb02.trans (hb3.mono hb02.size)
  have hPl : ∀ p ∈ permsV k.toNat, p.length ≤ 8 := fun p hp => by rw [permsV_len hp]; omega
  have hPn : (permsV k.toNat).length ≤ 46656 := perms_len6 (by omega)
  have hF := wgN_facts n hPl
  have han := hall.n
  refine spec_WilfGroups.L7_rule _ _ _ _ _ _ _ (I := fun out cnt i w' => 0 ≤ i ∧ i ≤ (permsV k.toNat).length ∧ WgS w w.heap.size n (permsV k.toNat) out cnt all rp i.toNat w') (μ := fun _ _ i _ => ((permsV k.toNat).length - i).toNat)
    ⟨by omega, by omega, hb03, hb03.size, hall.mono hb02.size, [], [], (OwnRows.nil hc0).grow hb3, ((OwnS3.nil ho0).grow hb2).grow hb3, rfl, fun x hx => ?_, fun x hx => ?_, fun x hx => ?_, fun x hx => ?_⟩ ?_
  · simp [foot, Sl.blk, hcc] at hx
  · simp [foot, Sl.blk, hcc] at hx
  · simp [foot2, Sl.blk, hoc] at hx
  · simp [leaf] at hx
  rintro out cnt i w4 ⟨hi0, hi, hb4, hB4, hP, rc, G, hC, hO, hv, d1, d2, d3, d4⟩
  obtain ⟨f1, f2, f3⟩ := hF i.toNat (by omega)
  have hGl : G.length = (wgN n (permsV k.toNat) i.toNat).2.length := by rw [← hv]; simp
  rw [spec_WilfGroups.B7_s, hP.n]
  refine bif_dec (fun h3 => ?_) (fun h3 => ?_)
  · have hlt : i.toNat < (permsV k.toNat).length := by omega
    have hpl := hPl _ (List.getElem_mem hlt)
    refine hP.load hi0 (by omega) fun r hr hro => ?_
    refine lit_sl fun ρ w5 hρ hb5 => ?_
    have hb05 := hb4.trans (hb5.mono hB4)
    refine (c_specClassCounts (rowSS_one hρ (hro.row.grow hb5)) (by simp) (by rw [tot]; simp; rw [← List.getD_eq_getElem?_getD, getD_SS hlt]; omega) n).mono ?_
    rintro e w6 ⟨x, rfl, hx, hb6⟩
    refine ⟨x, rfl, ?_⟩
    have hb46 := hb5.trans (hb6.mono hb5.size)
    have hb06 := hb4.trans (hb46.mono hB4)
    have hP6 := hP.grow hb46
    have hC6 := hC.grow hb46
    have hO6 := hO.grow hb46
    have hxl := ClassCountsV_len [(permsV k.toNat).getD i.toNat []] n
    refine spec_WilfGroups.L11_rule _ _ _ _ _ _ _ _ _ (I := fun a w' => 0 ≤ a ∧ a ≤ (wgN n (permsV k.toNat) i.toNat).1.length ∧ (∀ j (hj : j < (wgN n (permsV k.toNat) i.toNat).1.length), j < a.toNat → (wgN n (permsV k.toNat) i.toNat).1[j] ≠ ClassCountsV [(permsV k.toNat).getD i.toNat []] n) ∧ Below w6.heap.size w6 w') (μ := fun a _ => ((wgN n (permsV k.toNat) i.toNat).1.length - a).toNat)
      ⟨by omega, by omega, fun j _ hj => by simp at hj, Below.refl _ _⟩ ?_
    rintro a w7 ⟨ha0, ha, hne, hb7⟩
    have hP7 := hP6.grow hb7
    have hC7 := hC6.grow hb7
    have hO7 := hO6.grow hb7
    have hx7 := Own.grow hx hb7
    have hb07 := hb06.trans (hb7.mono hb06.size)
    -- behind the search
    have fin : ∀ w8, Drew w7 w8 → (∀ hj : a.toNat < (wgN n (permsV k.toNat) i.toNat).1.length, (wgN n (permsV k.toNat) i.toNat).1[a.toNat] = ClassCountsV [(permsV k.toNat).getD i.toNat []] n) →
        (spec_WilfGroups.q19 std (fun e2 w2 => ∃ out_n cnt_n i_n, e2 = spec_WilfGroups.emb7 n out_n cnt_n all i_n ∧ (0 ≤ i_n ∧ i_n ≤ (permsV k.toNat).length ∧ WgS w w.heap.size n (permsV k.toNat) out_n cnt_n all rp i_n.toNat w2) ∧ (((permsV k.toNat).length : Int) - i_n).toNat < (((permsV k.toNat).length : Int) - i).toNat) (spec_WilfGroups.q9 std fun e w' => ∃ (s : Sl) (G : List Grp), e = .returned s.v ∧ OwnS3 w' w.heap.size s G ∧ vals G = (wgN n (permsV k.toNat) (permsV k.toNat).length).2 ∧ Below w.heap.size w w')) (.exit 2) (spec_WilfGroups.x2 n out cnt all i x a) w8 := by
      intro w8 hd8 hat
      have hA : wgA n (wgN n (permsV k.toNat) i.toNat).1 ((permsV k.toNat).getD i.toNat []) = a.toNat := wgA_eq (by omega) hne hat
      have hh := hd8.heap'
      have hP8 := hP7.heap hh
      have hC8 := hC7.heap hh
      have hO8 := hO7.heap hh
      have hx8 := Own.heap hx7 hh
      have hb08 : Below w.heap.size w w8 := hb07.trans (hd8.below _)
      have eS : wgN n (permsV k.toNat) (i.toNat + 1) = wgStep n (wgN n (permsV k.toNat) i.toNat) ((permsV k.toNat).getD i.toNat []) := rfl
      have join : ∀ (w9 : World) (out9 cnt9 : Sl) (rc9 : List Sl) (G9 : List Grp) (g : Grp), Below w.heap.size w w9 → OwnRows w9 w.heap.size all rp (permsV k.toNat) → OwnRows w9 w.heap.size cnt9 rc9 (wgN n (permsV k.toNat) (i.toNat + 1)).1 → OwnS3 w9 w.heap.size out9 G9 →
          (∀ x, foot cnt9 rc9 x → ¬ foot3 out9 G9 x) → (∀ x, foot cnt9 rc9 x → ¬ foot all rp x) → (∀ x, foot2 out9 G9 x → ¬ foot all rp x) → (∀ x, leaf G9 x → ∃ j, j < i.toNat ∧ ∃ r, rp[j]? = some r ∧ r.blk = some x) →
          G9[a.toNat]? = some g → g.LL.length < 2^38 → (vals G9).set a.toNat (g.LL ++ [(permsV k.toNat).getD i.toNat []]) = (wgN n (permsV k.toNat) (i.toNat + 1)).2 →
          spec_WilfGroups.J16 std n out9 cnt9 all i a w9 (fun e2 w2 => ∃ out_n cnt_n i_n, e2 = spec_WilfGroups.emb7 n out_n cnt_n all i_n ∧ (0 ≤ i_n ∧ i_n ≤ (permsV k.toNat).length ∧ WgS w w.heap.size n (permsV k.toNat) out_n cnt_n all rp i_n.toNat w2) ∧ (((permsV k.toNat).length : Int) - i_n).toNat < (((permsV k.toNat).length : Int) - i).toNat) (spec_WilfGroups.q9 std fun e w' => ∃ (s : Sl) (G : List Grp), e = .returned s.v ∧ OwnS3 w' w.heap.size s G ∧ vals G = (wgN n (permsV k.toNat) (permsV k.toNat).length).2 ∧ Below w.heap.size w w') := by
        intro w9 out9 cnt9 rc9 G9 g hb9 p9 c9 o9 q1 q2 q3 q4 hga hgl ev
        have hal := (List.getElem?_eq_some_iff.1 hga).1
        rw [spec_WilfGroups.J16_s]
        refine drew_intro fun w10 hd10 => ?_
        have hh := hd10.heap'
        replace p9 := p9.heap hh
        replace c9 := c9.heap hh
        replace o9 := o9.heap hh
        have hb10 : Below w.heap.size w w10 := hb9.trans (hd10.below _)
        refine o9.placeT ha0 (by omega) hga fun a1 _ hc1 => ?_
        refine p9.placeT hi0 (by omega) hr fun a2 _ hc2 => ?_
        have fin2 : ∀ w11 ρ2, Below w10.heap.size w10 w11 → Row w11 ρ2 [r.v] → sem1 .sl PP (Builtin.append_ #[T_SSint, T_SSint] T_SSint #[g.s.v, ρ2.v]) w11 fun t' w12 => idxK 1 out9 a fun ad => storeC ad t'.v w12 fun w13 =>
            ∃ out_n cnt_n i_n, spec_WilfGroups.emb7 n out9 cnt9 all (w64 (i + 1)) = spec_WilfGroups.emb7 n out_n cnt_n all i_n ∧ (0 ≤ i_n ∧ i_n ≤ (permsV k.toNat).length ∧ WgS w w.heap.size n (permsV k.toNat) out_n cnt_n all rp i_n.toNat w13) ∧ (((permsV k.toNat).length : Int) - i_n).toNat < (((permsV k.toNat).length : Int) - i).toNat := by
          intro w11 ρ2 hb11 hρ2
          have ea : (a.toNat : Int) = a := by omega
          have := wg_join (hb10.trans (hb11.mono hb10.size)) (hb10.trans (hb11.mono hb10.size)).size (p9.grow hb11) (c9.grow hb11) (o9.grow hb11) hlt q1 q2 q3 q4 hga hgl rfl ev hr hρ2
            (K := fun w13 => ∃ out_n cnt_n i_n, spec_WilfGroups.emb7 n out9 cnt9 all (w64 (i + 1)) = spec_WilfGroups.emb7 n out_n cnt_n all i_n ∧ (0 ≤ i_n ∧ i_n ≤ (permsV k.toNat).length ∧ WgS w w.heap.size n (permsV k.toNat) out_n cnt_n all rp i_n.toNat w13) ∧ (((permsV k.toNat).length : Int) - i_n).toNat < (((permsV k.toNat).length : Int) - i).toNat)
            fun w13 hS => ⟨out9, cnt9, i + 1, by rw [w64_succ hi0 (by omega)], ⟨by omega, by omega, by rw [show (i + 1).toNat = i.toNat + 1 by omega]; exact hS⟩, by omega⟩
          rw [ea] at this
          exact this
        refine ⟨?_, ?_⟩
        · refine load_sl hc1 (load_sl hc2 (lit_sl fun ρ2 w11 hρ2 hb11 => fin2 w11 ρ2 hb11 hρ2))
        · refine load_sl hc2 ⟨?_, ?_⟩
          · refine load_sl hc1 (lit_sl fun ρ2 w11 hρ2 hb11 => fin2 w11 ρ2 hb11 hρ2)
          · refine lit_sl fun ρ2 w11 hρ2 hb11 => load_sl (cell_grow hc1 hb11) (fin2 w11 ρ2 hb11 hρ2)
      rw [spec_WilfGroups.A11_2_s, hC8.n]
      refine bif_intro (fun h5 => ?_) (fun h5 => ?_)
      · have h5' : a.toNat = (wgN n (permsV k.toNat) i.toNat).1.length := by have := eq_of_beq h5; omega
        have eN : wgN n (permsV k.toNat) (i.toNat + 1) = ((wgN n (permsV k.toNat) i.toNat).1 ++ [ClassCountsV [(permsV k.toNat).getD i.toNat []] n], (wgN n (permsV k.toNat) i.toNat).2 ++ [[(permsV k.toNat).getD i.toNat []]]) := by
          rw [eS, wgStep, hA, if_neg (by omega)]
        have hfr : ∀ y, x.blk = some y → w5.heap.size ≤ y := fun y hy => (hx.lt y hy).1
        have hsz45 := hb5.size
        have hO4lt : ∀ y, foot3 out G y → y < w4.heap.size := fun y hy => (hO.footLt hy).2
        refine append_sl hC8 hb08.size (hx8.mono hb05.size) (fun t ht y h6 h7 => by have := hfr y h7; have := (hC.lt ht h6).2; omega) (by omega) ?_
        intro cnt9 w9 hC9 hg9 hn9
        have k9 := keeps_grown hg9
        have hO9 := hO8.keepsF k9 fun y h6 h7 => d1 y (.inl h7) h6
        have hP9 := hP8.keepsF k9 fun y h6 h7 => d2 y (.inl h7) h6
        have hb09 := hb08.grown hg9 hb08.size (fun g hg => (hC8.out.lt g hg).1)
        have hsz8 : w8.heap.size = w7.heap.size := by rw [hh]
        have hsz47 : w4.heap.size ≤ w7.heap.size := Nat.le_trans hb46.size hb7.size
        have foot9 : ∀ y, foot cnt9 (rc ++ [x]) y → foot cnt rc y ∨ w4.heap.size ≤ y := by
          rintro y (h6 | ⟨t, ht, h6⟩)
          · rcases hn9 y h6 with h7 | h7
            · exact .inl (.inl h7)
            · exact .inr (by omega)
          · rcases List.mem_append.1 ht with ht | ht
            · exact .inl (.inr ⟨t, ht, h6⟩)
            · simp at ht; subst ht; have := hfr y h6; exact .inr (by omega)
        refine lit0 oneSint hb09.size ?_
        intro e10 w10 he10 hg10 hec
        have hb10 := below_of_grow hg10
        have hb010 := hb09.trans (hb10.mono hb09.size)
        have hO10 := hO9.grow hb10
        have heR : OwnRows w10 w.heap.size e10 [] [] := OwnRows.nil he10
        have heF : ∀ y, ¬ foot e10 [] y := fun y h6 => by simp [foot, Sl.blk, hec] at h6
        refine append_s3 (g := ⟨e10, [], []⟩) hO10 hb010.size heR (fun g _ y _ h7 => heF y h7) (by omega) ?_
        intro out11 w11 hO11 hg11 hn11
        have k11 := keeps_grown hg11
        have hP10 := hP9.grow hb10
        have hC10 := hC9.grow hb10
        have hP11 := hP10.keepsF k11 fun y h6 h7 => d3 y (.inl h7) h6
        have hC11 := hC10.keepsF k11 fun y h6 h7 => by
          rcases foot9 y h6 with h8 | h8
          · exact d1 y h8 (.inl h7)
          · have := hO4lt y (.inl h7); omega
        have hb011 := hb010.grown hg11 hb010.size (fun g hg => (hO10.out.lt g hg).1)
        have f2' : ∀ y, foot2 out11 (G ++ [⟨e10, [], []⟩]) y → foot2 out G y ∨ w9.heap.size ≤ y := by
          rintro y (h6 | ⟨g, hg, h6⟩)
          · rcases hn11 y h6 with h7 | h7
            · exact .inl (.inl h7)
            · exact .inr (by have := hb10.size; omega)
          · rcases List.mem_append.1 hg with hg | hg
            · exact .inl (.inr ⟨g, hg, h6⟩)
            · simp at hg; subst hg; exact absurd (.inl h6) (heF y)
        have lf' : ∀ y, leaf (G ++ [⟨e10, [], []⟩]) y → leaf G y := by
          rintro y ⟨g, hg, q, hq, h6⟩
          rcases List.mem_append.1 hg with hg | hg
          · exact ⟨g, hg, q, hq, h6⟩
          · simp at hg; subst hg; simp at hq
        have hPlt : ∀ y, foot all rp y → y < w4.heap.size := fun y hy => (hP.footLt hy).2
        have hsz49 : w4.heap.size ≤ w9.heap.size := by have := hg9.size; omega
        refine join w11 out11 cnt9 (rc ++ [x]) (G ++ [⟨e10, [], []⟩]) ⟨e10, [], []⟩ hb011 hP11 (by rw [eN]; exact hC11) hO11 (fun y h6 h7 => ?_) (fun y h6 h7 => ?_) (fun y h6 h7 => ?_) (fun y h6 => d4 y (lf' y h6)) ?_ (by simp) ?_
        · rcases foot3_iff.1 h7 with h8 | h8
          · rcases f2' y h8 with h9 | h9
            · rcases foot9 y h6 with h10 | h10
              · exact d1 y h10 (foot3_iff.2 (.inl h9))
              · have := hO4lt y (foot3_iff.2 (.inl h9)); omega
            · have := (hC9.footLt h6).2; omega
          · have h9 := lf' y h8
            rcases foot9 y h6 with h10 | h10
            · exact d1 y h10 (foot3_iff.2 (.inr h9))
            · have := hO4lt y (foot3_iff.2 (.inr h9)); omega
        · rcases foot9 y h6 with h10 | h10
          · exact d2 y h10 h7
          · have := hPlt y h7; omega
        · rcases f2' y h6 with h9 | h9
          · exact d3 y h9 h7
          · have := hPlt y h7; omega
        · rw [show a.toNat = G.length by omega]; simp
        · rw [eN, show a.toNat = G.length by omega]
          simp only [vals, List.map_append, List.map_cons, List.map_nil]
          rw [List.set_append_right _ _ (by simp), ← hv]; simp
      · have h5' : a.toNat < (wgN n (permsV k.toNat) i.toNat).1.length := by have := ne_of_beq_false h5; omega
        have eN : wgN n (permsV k.toNat) (i.toNat + 1) = ((wgN n (permsV k.toNat) i.toNat).1, (wgN n (permsV k.toNat) i.toNat).2.set a.toNat ((wgN n (permsV k.toNat) i.toNat).2.getD a.toNat [] ++ [(permsV k.toNat).getD i.toNat []])) := by
          rw [eS, wgStep, hA, if_pos h5']
        obtain ⟨g, hg, hgv⟩ := vals_get (G := G) (a := a.toNat) (by omega)
        have hle := le_tot3 (G := vals G) (LL := g.LL) (List.mem_map_of_mem (List.mem_of_getElem? hg))
        rw [hv] at hle
        refine join w8 out cnt rc G g hb08 hP8 (by rw [eN]; exact hC8) hO8 d1 d2 d3 d4 hg (by omega) ?_
        rw [eN, ← hv, hgv]
    rw [spec_WilfGroups.B11_s, hC7.n]
    refine bif_dec (fun h4 => ?_) (fun h4 => ?_)
    · have hlt2 : a.toNat < (wgN n (permsV k.toNat) i.toNat).1.length := by omega
      refine hC7.load ha0 (by omega) fun d _ hd => ?_
      refine Quiet.call1 (s := .bool) (c_l2Same hd.row hx7.row ?_) ?_
      · rw [getD_SS hlt2]
        have h5 := (wgN_rows n (permsV k.toNat) i.toNat) _ (List.getElem_mem hlt2)
        omega
      intro w8 hd8
      rw [getD_SS hlt2]
      refine bif_intro (fun h5 => ?_) (fun h5 => ?_)
      · refine ⟨a + 1, by rw [w64_succ ha0 (by omega)], ⟨by omega, by omega, fun j hj1 hj => ?_, hb7.trans (hd8.below _)⟩, by omega⟩
        by_cases e : j = a.toNat
        · subst e; simpa using h5
        · exact hne j hj1 (by omega)
      · exact fin w8 hd8 fun _ => by simpa using h5
    · exact fin w7 (Drew.refl _) fun hj => absurd hj (by omega)
  · rw [spec_WilfGroups.A7_0_s]
    rw [show i.toNat = (permsV k.toNat).length by omega] at hv
    exact ⟨out, G, rfl, hO, hv, hb4⟩
end Go.Proofs.Ytmhgjfahgemblaa
