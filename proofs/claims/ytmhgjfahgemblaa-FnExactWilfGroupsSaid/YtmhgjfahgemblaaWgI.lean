/- WilfGroups: the program's text, and the law. -/
import Derived.Test.YtmhgjfahgemblaaWg
namespace Go.Proofs.Ytmhgjfahgemblaa
open Go Go.RowKit
set_option maxRecDepth 100000

theorem c_WgFn {w0 : World} {v : Addr} {c d : Sl} {X D : List Int} (hv : w0.cell? v = some c.v) (hc : RowI w0 c X) (hd : RowI w0 d D) (hX : X.length < 2^38) : FnB w0 (.func (.func F.impl_WilfGroupsL1) #[] #[.pointer (some v)]) [d.v] (decide (X = D)) := by
  intro w hb
  refine ⟨F.impl_WilfGroupsL1, #[], #[.pointer (some v)], rfl, by kernel_rfl, ?_⟩
  refine impl_WilfGroupsL1.calls d v ?_
  rw [impl_WilfGroupsL1.E_s]
  refine load_sl (cell_grow hv hb) ?_
  refine Quiet.call1 (s := .bool) (c_Equal (hc.grow hb) (hd.grow hb) (by omega)) ?_
  intro w1 hd1
  exact ⟨rfl, hd1.below _⟩
theorem wgA_idx {n : Int} {C : List (List Int)} {p : List Int} : idxF (fun D => decide (ClassCountsV [p] n = D)) C = if wgA n C p < C.length then (wgA n C p : Int) else -1 := by
  have e : wgA n C p = C.findIdx (fun D => decide (ClassCountsV [p] n = D)) := by
    unfold wgA
    congr 1
    funext D
    by_cases h : D = ClassCountsV [p] n
    · simp [h]
    · rw [decide_eq_false h, decide_eq_false fun h2 => h h2.symm]
  rw [e]; rfl
set_option maxHeartbeats 1000000 in
theorem c_implWilfGroups {w : World} (k n : Int) :
    Calls PP F.impl_WilfGroups #[vI k, vI n] w fun e w' => ∃ (s : Sl) (G : List Grp), e = .returned s.v ∧ OwnS3 w' w.heap.size s G ∧ vals G = WilfGroupsV k n ∧ Below w.heap.size w w' := by
  classical
  have no : ¬ (1 ≤ k ∧ k ≤ 4 ∧ 0 ≤ n ∧ n ≤ 6) → ∃ (s : Sl) (G : List Grp), Ending.returned Sl.nil.v = .returned s.v ∧ OwnS3 w w.heap.size s G ∧ vals G = WilfGroupsV k n ∧ Below w.heap.size w w := fun hn => by
    rw [WilfGroupsV, if_neg hn]
    exact ⟨Sl.nil, [], rfl, OwnS3.nil (Own.nil _ _ _), rfl, Below.refl _ _⟩
  refine impl_WilfGroups.calls k n ?_
  rw [impl_WilfGroups.E_s]
  refine bif_dec (fun h => ?_) (fun h1 => ?_)
  · exact no fun hh => by omega
  refine bif_dec (fun h => ?_) (fun h2 => ?_)
  · exact no fun hh => by omega
  refine c_six ?_
  refine bif_intro (fun h => ?_) (fun h => ?_)
  · exact no fun hh => by simp at h; omega
  have hk : 1 ≤ k ∧ k ≤ 4 := by omega
  have hn : 0 ≤ n ∧ n ≤ 6 := by simp at h; omega
  rw [WilfGroupsV, if_pos ⟨hk.1, hk.2, hn.1, hn.2⟩]
  refine lit0 oneS3 (B := w.heap.size) (Nat.le_refl _) ?_
  intro o0 w1 ho0 hg1 hoc
  have hb1 := below_of_grow hg1
  refine lit0 oneSint (B := w.heap.size) hb1.size ?_
  intro c0 w2 hc0 hg2 hcc
  have hb2 := below_of_grow hg2
  have hb02 := hb1.trans (hb2.mono hb1.size)
  obtain ⟨kN, rfl⟩ : ∃ kN : Nat, k = kN := ⟨k.toNat, by omega⟩
  refine (c_perms kN (by omega)).mono ?_
  rintro e w3 ⟨all, rfl, ⟨rp, hall⟩, hb3⟩
  refine ⟨all, rfl, ?_⟩
  rw [Int.toNat_natCast]
  have hb03 := hb02.trans (hb3.mono hb02.size)
  have hPl : ∀ p ∈ permsV kN, p.length ≤ 8 := fun p hp => by rw [permsV_len hp]; omega
  have hPn : (permsV kN).length ≤ 46656 := perms_len6 (by omega)
  have hF := wgN_facts n hPl
  have han := hall.n
  show impl_WilfGroups.L6 std n o0 c0 all (all.n : Int) 0 w3 _
  rw [han]
  refine impl_WilfGroups.L6_rule _ _ _ _ _ _ _ _ (I := fun out cnt i w' => 0 ≤ i ∧ i ≤ (permsV kN).length ∧ WgS w w.heap.size n (permsV kN) out cnt all rp i.toNat w') (μ := fun _ _ i _ => ((permsV kN).length - i).toNat)
    ⟨by omega, by omega, hb03, hb03.size, hall.mono hb02.size, [], [], (OwnRows.nil hc0).grow hb3, ((OwnS3.nil ho0).grow hb2).grow hb3, rfl, fun x hx => ?_, fun x hx => ?_, fun x hx => ?_, fun x hx => ?_⟩ ?_
  · simp [foot, Sl.blk, hcc] at hx
  · simp [foot, Sl.blk, hcc] at hx
  · simp [foot2, Sl.blk, hoc] at hx
  · simp [leaf] at hx
  rintro out cnt i w4 ⟨hi0, hi, hb4, hB4, hP, rc, G, hC, hO, hv, d1, d2, d3, d4⟩
  obtain ⟨f1, f2, f3⟩ := hF i.toNat (by omega)
  have hGl : G.length = (wgN n (permsV kN) i.toNat).2.length := by rw [← hv]; simp
  rw [impl_WilfGroups.B6_s]
  refine bif_dec (fun h3 => ?_) (fun h3 => ?_)
  · have hlt : i.toNat < (permsV kN).length := by omega
    have hpl := hPl _ (List.getElem_mem hlt)
    refine hP.load hi0 (by omega) fun r hr hro => ?_
    refine lit_sl fun ρ w5 hρ hb5 => ?_
    have hb05 := hb4.trans (hb5.mono hB4)
    refine (c_implClassCounts (rowSS_one hρ (hro.row.grow hb5)) (by simp) (by rw [tot]; simp; rw [← List.getD_eq_getElem?_getD, getD_SS hlt]; omega) n).mono ?_
    rintro e w6 ⟨x, rfl, hx, hb6, _⟩
    refine ⟨x, rfl, ?_⟩
    have hb46 := hb5.trans (hb6.mono hb5.size)
    have hxl := ClassCountsV_len [(permsV kN).getD i.toNat []] n
    refine new_set2 fun v w7 hv7 hvb hb7 => ?_
    have hb47 := hb46.trans (hb7.mono hb46.size)
    have hb07 := hb4.trans (hb47.mono hB4)
    have hC7 := hC.grow hb47
    have hx7 := Own.grow hx hb7
    have hcl := wgN_rows n (permsV kN) i.toNat
    refine (c_IndexFuncS hC7.row (by omega) (φ := fun D => decide (ClassCountsV [(permsV kN).getD i.toNat []] n = D)) fun L hL r hr => c_WgFn hv7 hx7.row hr (by omega)).mono ?_
    rintro e w8 ⟨rfl, hb8⟩
    refine ⟨_, rfl, ?_⟩
    have hb48 := hb47.trans (hb8.mono hb47.size)
    have hb08 := hb4.trans (hb48.mono hB4)
    have hP8 := hP.grow hb48
    have hC8 := hC.grow hb48
    have hO8 := hO.grow hb48
    have hx8 := Own.grow hx7 hb8
    have hv8 := cell_grow hv7 hb8
    have eS : wgN n (permsV kN) (i.toNat + 1) = wgStep n (wgN n (permsV kN) i.toNat) ((permsV kN).getD i.toNat []) := rfl
    have join : ∀ (a : Nat) (w9 : World) (out9 cnt9 : Sl) (rc9 : List Sl) (G9 : List Grp) (g : Grp), Below w.heap.size w w9 → OwnRows w9 w.heap.size all rp (permsV kN) → OwnRows w9 w.heap.size cnt9 rc9 (wgN n (permsV kN) (i.toNat + 1)).1 → OwnS3 w9 w.heap.size out9 G9 →
        (∀ x, foot cnt9 rc9 x → ¬ foot3 out9 G9 x) → (∀ x, foot cnt9 rc9 x → ¬ foot all rp x) → (∀ x, foot2 out9 G9 x → ¬ foot all rp x) → (∀ x, leaf G9 x → ∃ j, j < i.toNat ∧ ∃ r, rp[j]? = some r ∧ r.blk = some x) →
        G9[a]? = some g → g.LL.length < 2^38 → (vals G9).set a (g.LL ++ [(permsV kN).getD i.toNat []]) = (wgN n (permsV kN) (i.toNat + 1)).2 →
        impl_WilfGroups.J13 std n out9 cnt9 r (a : Int) all (permsV kN).length i w9 (fun e2 w2 => ∃ out_n cnt_n i_n, e2 = impl_WilfGroups.emb6 n out_n cnt_n all (permsV kN).length i_n ∧ (0 ≤ i_n ∧ i_n ≤ (permsV kN).length ∧ WgS w w.heap.size n (permsV kN) out_n cnt_n all rp i_n.toNat w2) ∧ (((permsV kN).length : Int) - i_n).toNat < (((permsV kN).length : Int) - i).toNat) (impl_WilfGroups.q8 std fun e w' => ∃ (s : Sl) (G : List Grp), e = .returned s.v ∧ OwnS3 w' w.heap.size s G ∧ vals G = (wgN n (permsV kN) (permsV kN).length).2 ∧ Below w.heap.size w w') := by
      intro a w9 out9 cnt9 rc9 G9 g hb9 p9 c9 o9 q1 q2 q3 q4 hga hgl ev
      have hal := (List.getElem?_eq_some_iff.1 hga).1
      rw [impl_WilfGroups.J13_s]
      refine o9.load (by omega) (by omega) fun g' hg' => ?_
      rw [Int.toNat_natCast, hga] at hg'
      cases hg'
      refine lit_sl fun ρ2 w11 hρ2 hb11 => ?_
      exact wg_join (hb9.trans (hb11.mono hb9.size)) (hb9.trans (hb11.mono hb9.size)).size (p9.grow hb11) (c9.grow hb11) (o9.grow hb11) hlt q1 q2 q3 q4 hga hgl rfl ev hr hρ2
        fun w13 hS => ⟨out9, cnt9, i + 1, by rw [w64_succ hi0 (by omega)], ⟨by omega, by omega, by rw [show (i + 1).toNat = i.toNat + 1 by omega]; exact hS⟩, by omega⟩
    rw [wgA_idx]
    by_cases hpos : wgA n (wgN n (permsV kN) i.toNat).1 ((permsV kN).getD i.toNat []) < (wgN n (permsV kN) i.toNat).1.length
    · rw [if_pos hpos]
      refine bif_f (by simp) ?_
      have eN : wgN n (permsV kN) (i.toNat + 1) = ((wgN n (permsV kN) i.toNat).1, (wgN n (permsV kN) i.toNat).2.set (wgA n (wgN n (permsV kN) i.toNat).1 ((permsV kN).getD i.toNat [])) ((wgN n (permsV kN) i.toNat).2.getD (wgA n (wgN n (permsV kN) i.toNat).1 ((permsV kN).getD i.toNat [])) [] ++ [(permsV kN).getD i.toNat []])) := by
        rw [eS, wgStep, if_pos hpos]
      obtain ⟨g, hg, hgv⟩ := vals_get (G := G) (a := wgA n (wgN n (permsV kN) i.toNat).1 ((permsV kN).getD i.toNat [])) (by omega)
      have hle := le_tot3 (G := vals G) (LL := g.LL) (List.mem_map_of_mem (List.mem_of_getElem? hg))
      rw [hv] at hle
      refine join _ w8 out cnt rc G g hb08 hP8 (by rw [eN]; exact hC8) hO8 d1 d2 d3 d4 hg (by omega) ?_
      rw [eN, ← hv, hgv]
    · rw [if_neg hpos]
      refine bif_t (by simp) ?_
      refine drew_intro fun w9 hd9 => ?_
      have hh := hd9.heap'
      have hP9 := hP8.heap hh
      have hC9 := hC8.heap hh
      have hO9 := hO8.heap hh
      have hx9 := Own.heap hx8 hh
      have hv9 : w9.cell? v = some x.v := by simpa [World.cell?, hh] using hv8
      have hb09 : Below w.heap.size w w9 := hb08.trans (hd9.below _)
      have hsz : w4.heap.size ≤ w9.heap.size := by rw [hh]; exact hb48.size
      have hxb : ∀ y, x.blk = some y → w5.heap.size ≤ y ∧ y < w6.heap.size := fun y hy => hx.lt y hy
      have hsz5 := hb5.size
      have hO4lt : ∀ y, foot3 out G y → y < w4.heap.size := fun y hy => (hO.footLt hy).2
      have hC4lt : ∀ y, foot cnt rc y → y < w4.heap.size := fun y hy => (hC.footLt hy).2
      have hPlt : ∀ y, foot all rp y → y < w4.heap.size := fun y hy => (hP.footLt hy).2
      have hvb4 : w4.heap.size ≤ v.block := Nat.le_trans hb46.size hvb
      have eN : wgN n (permsV kN) (i.toNat + 1) = ((wgN n (permsV kN) i.toNat).1 ++ [ClassCountsV [(permsV kN).getD i.toNat []] n], (wgN n (permsV kN) i.toNat).2 ++ [[(permsV kN).getD i.toNat []]]) := by
        rw [eS, wgStep, if_neg hpos]
      have hJ0 : JG w9 w.heap.size T_SSint T_Sint out cnt (G.map fun g => g.s.v) (rc.map Sl.v) Sl.nil.v x.v w9 none none none none :=
        JG.start hb09.size hO9.out hC9.out (fun y h5 h6 => d1 y (.inl h6) (.inl h5)) (by rw [List.length_map]; omega) (by rw [List.length_map]; have := hC.len; omega)
      have nv1 : out.blk ≠ some v.block := fun e => by have := hO4lt _ (.inl e); omega
      have nv2 : cnt.blk ≠ some v.block := fun e => by have := hC4lt _ (.inl e); omega
      have fin : ∀ (w' : World) (pa pb : Option Sl) (out' cnt' : Sl), JG w9 w.heap.size T_SSint T_Sint out cnt (G.map fun g => g.s.v) (rc.map Sl.v) Sl.nil.v x.v w' pa (some out') pb (some cnt') →
          impl_WilfGroups.J13 std n out' cnt' r (out.n : Int) all (permsV kN).length i w' (fun e2 w2 => ∃ out_n cnt_n i_n, e2 = impl_WilfGroups.emb6 n out_n cnt_n all (permsV kN).length i_n ∧ (0 ≤ i_n ∧ i_n ≤ (permsV kN).length ∧ WgS w w.heap.size n (permsV kN) out_n cnt_n all rp i_n.toNat w2) ∧ (((permsV kN).length : Int) - i_n).toNat < (((permsV kN).length : Int) - i).toNat) (impl_WilfGroups.q8 std fun e w' => ∃ (s : Sl) (G : List Grp), e = .returned s.v ∧ OwnS3 w' w.heap.size s G ∧ vals G = (wgN n (permsV kN) (permsV kN).length).2 ∧ Below w.heap.size w w') := by
        intro w' pa pb out' cnt' hJ
        obtain ⟨ho', hno⟩ := hJ.a1 out' rfl
        obtain ⟨hc', hnc⟩ := hJ.b1 cnt' rfl
        have kp := hJ.keeps
        have hno' : ∀ y, out'.blk = some y → out.blk = some y ∨ w4.heap.size ≤ y := fun y hy => (hno y hy).imp id fun h5 => by omega
        have hnc' : ∀ y, cnt'.blk = some y → cnt.blk = some y ∨ w4.heap.size ≤ y := fun y hy => (hnc y hy).imp id fun h5 => by omega
        have hP' := hP9.keepsF kp fun y h5 h6 => h6.elim (fun h7 => d3 y (.inl h7) h5) fun h7 => d2 y (.inl h7) h5
        have hG' : ∀ g ∈ G, OwnRows w' w.heap.size g.s g.rs g.LL := fun g hg => (hO9.grp g hg).keepsF kp fun y h5 h6 => h6.elim (fun h7 => hO9.outApt hg h7 h5) fun h7 => d1 y (.inl h7) (.inr ⟨g, hg, h5⟩)
        have hx' := Own.keeps hx9 kp fun y h5 h6 => by
          have := (hxb y h5).1
          rcases h6 with h7 | h7
          · have := hO4lt y (.inl h7); omega
          · have := hC4lt y (.inl h7); omega
        have hO' : OwnS3 w' w.heap.size out' (G ++ [⟨Sl.nil, [], []⟩]) := by
          refine ⟨by simpa using ho', fun g hg => ?_, ?_⟩
          · rcases List.mem_append.1 hg with hg | hg
            · exact hG' g hg
            · simp at hg; subst hg; exact OwnRows.nil (Own.nil _ _ _)
          · rw [List.pairwise_append]
            refine ⟨hO9.apt, by simp, fun g hg u hu y h5 h6 => ?_⟩
            simp at hu; subst hu
            simp [foot, Sl.blk, Sl.nil] at h6
        have hC' : OwnRows w' w.heap.size cnt' (rc ++ [x]) (wgN n (permsV kN) (i.toNat + 1)).1 := by
          have hcl' := hC9.len
          rw [eN]
          refine ⟨by simpa using hc', by simp [hcl'], fun j t M e1 e2 => ?_, fun j l t u hjl e1 e2 => ?_⟩
          · rcases getElem?_snoc e1 with ⟨h5, h6⟩ | ⟨h5, rfl⟩
            · rcases getElem?_snoc e2 with ⟨h7, h8⟩ | ⟨h7, rfl⟩
              · refine (hC9.at_ j t M h6 h8).keeps kp fun y h9 h10 => ?_
                have hm := List.mem_of_getElem? h6
                rcases h10 with h11 | h11
                · exact d1 y (.inr ⟨t, hm, h9⟩) (.inl h11)
                · exact hC9.out.apt (hC9.at_ j t M h6 h8) (by decide) y h11 h9
              · omega
            · rcases getElem?_snoc e2 with ⟨h7, h8⟩ | ⟨h7, rfl⟩
              · omega
              · exact hx'.mono hb05.size
          · have far : ∀ t ∈ rc, Apt t x := fun t ht y h5 h6 => by
              have := (hxb y h6).1; have := hC4lt y (.inr ⟨t, ht, h5⟩); omega
            rcases getElem?_snoc e1 with ⟨h5, h6⟩ | ⟨h5, rfl⟩
            · rcases getElem?_snoc e2 with ⟨h7, h8⟩ | ⟨h7, rfl⟩
              · exact hC9.apt j l t u hjl h6 h8
              · exact far t (List.mem_of_getElem? h6)
            · rcases getElem?_snoc e2 with ⟨h7, h8⟩ | ⟨h7, rfl⟩
              · exact (far u (List.mem_of_getElem? h8)).symm
              · omega
        have fc : ∀ y, foot cnt' (rc ++ [x]) y → foot cnt rc y ∨ (cnt'.blk = some y ∧ cnt.blk ≠ some y ∧ w9.heap.size ≤ y) ∨ (x.blk = some y) := by
          rintro y (h5 | ⟨t, ht, h5⟩)
          · by_cases hcb : cnt.blk = some y
            · exact .inl (.inl hcb)
            · rcases hnc y h5 with h6 | h6
              · exact absurd h6 hcb
              · exact .inr (.inl ⟨h5, hcb, h6⟩)
          · rcases List.mem_append.1 ht with ht | ht
            · exact .inl (.inr ⟨t, ht, h5⟩)
            · simp at ht; subst ht; exact .inr (.inr h5)
        have fo2 : ∀ y, foot2 out' (G ++ [⟨Sl.nil, [], []⟩]) y → foot2 out G y ∨ (out'.blk = some y ∧ w9.heap.size ≤ y) := by
          rintro y (h5 | ⟨g, hg, h5⟩)
          · rcases hno y h5 with h6 | h6
            · exact .inl (.inl h6)
            · exact .inr ⟨h5, h6⟩
          · rcases List.mem_append.1 hg with hg | hg
            · exact .inl (.inr ⟨g, hg, h5⟩)
            · simp at hg; subst hg; simp [Sl.blk, Sl.nil] at h5
        have fl : ∀ y, leaf (G ++ [⟨Sl.nil, [], []⟩]) y → leaf G y := by
          rintro y ⟨g, hg, q, hq, h5⟩
          rcases List.mem_append.1 hg with hg | hg
          · exact ⟨g, hg, q, hq, h5⟩
          · simp at hg; subst hg; simp at hq
        have hw9 : w6.heap.size ≤ w9.heap.size := by rw [hh]; exact Nat.le_trans hb7.size hb8.size
        rw [hO.n]
        refine join G.length w' out' cnt' (rc ++ [x]) (G ++ [⟨Sl.nil, [], []⟩]) ⟨Sl.nil, [], []⟩ (hb09.trans (kp.below (fun y hy => hy.elim (fun h5 => (hO9.out.lt y h5).1) fun h5 => (hC9.out.lt y h5).1) hb09.size)) hP' hC' hO' (fun y h5 h6 => ?_) (fun y h5 h6 => ?_) (fun y h5 h6 => ?_) (fun y h5 => d4 y (fl y h5)) (by simp) (by simp) ?_
        · rcases foot3_iff.1 h6 with h7 | h7
          · rcases fo2 y h7 with h8 | ⟨h8, h8'⟩
            · have hl := hO4lt y (foot3_iff.2 (.inl h8))
              rcases fc y h5 with h9 | ⟨_, _, h9⟩ | h9
              · exact d1 y h9 (foot3_iff.2 (.inl h8))
              · omega
              · have := (hxb y h9).1; omega
            · rcases fc y h5 with h9 | ⟨h9, _, _⟩ | h9
              · have := hC4lt y h9; omega
              · exact hJ.ap out' cnt' rfl rfl y h8 h9
              · have := (hxb y h9).2; omega
          · have h8 := fl y h7
            have hl := hO4lt y (foot3_iff.2 (.inr h8))
            rcases fc y h5 with h9 | ⟨_, _, h9⟩ | h9
            · exact d1 y h9 (foot3_iff.2 (.inr h8))
            · omega
            · have := (hxb y h9).1; omega
        · have hl := hPlt y h6
          rcases fc y h5 with h9 | ⟨_, _, h9⟩ | h9
          · exact d2 y h9 h6
          · omega
          · have := (hxb y h9).1; omega
        · have hl := hPlt y h6
          rcases fo2 y h5 with h8 | ⟨_, h8⟩
          · exact d3 y h8 h6
          · omega
        · rw [eN]
          simp only [vals, List.map_append, List.map_cons, List.map_nil]
          rw [List.set_append_right _ _ (by simp), ← hv]; simp
      have lv : ∀ (w' : World) (pa da pb db : Option Sl) (K : Sl → Prop), JG w9 w.heap.size T_SSint T_Sint out cnt (G.map fun g => g.s.v) (rc.map Sl.v) Sl.nil.v x.v w' pa da pb db → K x → load1 .sl v w' K := fun w' pa da pb db K hj hk => load_sl (hj.cell hv9 nv1 nv2) hk
      repeat' first
        | (with_reducible exact fin _ _ _ _ _ (by assumption))
        | (with_reducible apply And.intro)
        | (with_reducible refine lv _ _ _ _ _ _ (by assumption) ?_)
        | (with_reducible refine JG.litA oneS3 (One.sl Sl.nil) (by assumption) ?_; intro _ _ _)
        | (with_reducible refine JG.litB oneSint (One.sl x) (by assumption) ?_; intro _ _ _)
        | (with_reducible refine JG.appA oneS3 (One.sl Sl.nil) (by assumption) ?_; intro _ _ _)
        | (with_reducible refine JG.appB oneSint (One.sl x) (by assumption) ?_; intro _ _ _)
  · rw [impl_WilfGroups.A6_0_s]
    rw [show i.toNat = (permsV kN).length by omega] at hv
    exact ⟨out, G, rfl, hO, hv, hb4⟩
theorem WilfGroupsV_len (k n : Int) : (WilfGroupsV k n).length < 2^38 ∧ tot3 (WilfGroupsV k n) < 2^38 := by
  classical
  by_cases h : 1 ≤ k ∧ k ≤ 4 ∧ 0 ≤ n ∧ n ≤ 6
  · rw [WilfGroupsV, if_pos h]
    have hPn : (permsV k.toNat).length ≤ 46656 := perms_len6 (by omega)
    obtain ⟨f1, f2, f3⟩ := wgN_facts n (P := permsV k.toNat) (fun p hp => by rw [permsV_len hp]; omega) _ (Nat.le_refl _)
    exact ⟨by omega, by omega⟩
  · rw [WilfGroupsV, if_neg h]; simp [tot3]
theorem lawC_FnExactWilfGroups (k0 : Int) (_ : -9223372036854775808 ≤ k0 ∧ k0 ≤ 9223372036854775807) (k1 : Int) (_ : -9223372036854775808 ≤ k1 ∧ k1 ≤ 9223372036854775807) (w : World) :
    Calls PP F.laws_FnExactWilfGroups #[vI k0, vI k1] w fun e w' => e = .returned (.bool true) ∧ Below w.heap.size w w' := by
  obtain ⟨hl, ht⟩ := WilfGroupsV_len k0 k1
  refine laws_FnExactWilfGroups.calls k0 k1 ?_
  rw [laws_FnExactWilfGroups.E_s]
  refine (c_specWilfGroups k0 k1).mono ?_
  rintro e w1 ⟨s, G, rfl, hs, hG, hb1⟩
  refine ⟨s, rfl, ?_⟩
  refine (c_implWilfGroups k0 k1).mono ?_
  rintro e w2 ⟨t, H, rfl, ht2, hH, hb2⟩
  refine ⟨t, rfl, ?_⟩
  have hb02 := hb1.trans (hb2.mono hb1.size)
  have hs2 := (hs.row.grow hb2)
  have hHl : H.length = (WilfGroupsV k0 k1).length := by rw [← hH]; simp
  refine Quiet.call1 (s := .bool) (c_eqIntSSS ht2.row hs2 (by rw [List.length_map]; omega) (by rw [hH]; exact ht)) ?_
  intro w3 hd3
  refine bif_f (by simp [hG, hH]) ?_
  have ht3 := ht2.heap hd3.heap'
  have hs3 := hs2.heap hd3.heap'
  have hb03 := hb02.trans (hd3.below _)
  have hsz3 : w3.heap.size = w2.heap.size := by rw [hd3.heap']
  refine (c_markIntSSS ht3 (by omega) (by rw [hH]; exact ht) (k := 1) (by omega) (by omega)).mono ?_
  rintro e w4 ⟨M, rfl, hM, hmk, hkp, hz4⟩
  refine ⟨_, rfl, ?_⟩
  have hft : ∀ x, foot3 t H x → w1.heap.size ≤ x := fun x hx => (ht2.footLt hx).1
  have hb04 : Below w.heap.size w w4 := hb03.trans (hkp.below (fun x hx => by have := hft x hx; have := hb1.size; omega) hb03.size)
  have hs4 : RowS3 w4 s (vals G) := (hs.grow hb2).heap hd3.heap' |>.keepsF hkp (fun x h1 h2 => by have := (hs.footLt h1).2; have := hft x h2; omega) |>.row
  refine (c_heldIntSSS (G := H) hM.row hmk (by omega) (by rw [hH]; exact ht) (by omega) (by omega)).mono ?_
  rintro e w5 ⟨rfl, hd5⟩
  refine ⟨_, rfl, ?_⟩
  refine bif_dec (fun h => by omega) (fun _ => ?_)
  refine bif_f (by simp) ?_
  have hb05 := hb04.trans (hd5.below _)
  refine (c_implWilfGroups k0 k1).mono ?_
  rintro e w6 ⟨u, U, rfl, hu, hU, hb6⟩
  refine ⟨u, rfl, ?_⟩
  have hb06 := hb05.trans (hb6.mono hb05.size)
  refine Quiet.call1 (s := .bool) (c_eqIntSSS hu.row ((hs4.heap hd5.heap').grow hb6) (by rw [hU]; exact hl) (by rw [hU]; exact ht)) ?_
  intro w7 hd7
  refine bif_f (by simp [hG, hU]) ?_
  refine (c_heldIntSSS (G := H) (((hM.row.heap hd5.heap').grow hb6).heap hd7.heap') hmk (by omega) (by rw [hH]; exact ht) (by omega) (by omega)).mono ?_
  rintro e w8 ⟨rfl, hd8⟩
  refine ⟨_, rfl, ?_⟩
  refine bif_dec (fun h => by omega) (fun _ => ?_)
  refine bif_f (by simp) ?_
  exact ⟨rfl, (hb06.trans (hd7.below _)).trans (hd8.below _)⟩
end Go.Proofs.Ytmhgjfahgemblaa
