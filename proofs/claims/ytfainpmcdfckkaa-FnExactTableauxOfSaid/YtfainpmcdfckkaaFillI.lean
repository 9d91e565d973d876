/- TableauxOf: the program's text, and the law. -/
import Derived.Test.YtfainpmcdfckkaaFillS
import Derived.Test.YtfainpmcdfckkaaLawSz
import Derived.Test.YtfainpmcdfckkaaLaw2
namespace Go.Proofs.Ytfainpmcdfckkaa
open Go Go.RowKit
set_option maxRecDepth 100000

theorem c_total {w : World} {a : Sl} {L : List Int} (ha : RowI w a L) (h : ∀ k, k ≤ L.length → 0 ≤ sm L k ∧ sm L k ≤ 6) (hL : L.length < 2^38) :
    Calls PP F.impl_total #[a.v] w fun e w' => e = .returned (vI (sm L L.length)) ∧ w' = w := by
  have han : a.n = L.length := by have := ha.n; simpa using this
  refine impl_total.calls a ?_
  rw [impl_total.E_s, han]
  refine impl_total.L3_rule _ _ _ _ _ _ (I := fun z i w' => w' = w ∧ 0 ≤ i ∧ i ≤ L.length ∧ z = sm L i.toNat) (μ := fun _ i _ => (L.length - i).toNat) ⟨rfl, by omega, by omega, rfl⟩ ?_
  rintro z i w' ⟨rfl, h0, hi, rfl⟩
  rw [impl_total.B3_s]
  refine bif_dec (fun h3 => ?_) (fun h3 => ?_)
  · refine RowI.get ha h0 (by omega) ?_
    have h7 := h i.toNat (by omega)
    have h8 := h (i.toNat + 1) (by omega)
    rw [sm] at h8
    refine ⟨_, i + 1, by rw [w64_succ h0 (by omega), w64_id (by omega) (by omega)], ⟨rfl, by omega, by omega, ?_⟩, by omega⟩
    rw [show (i + 1).toNat = i.toNat + 1 by omega, sm]
  · rw [impl_total.A3_0_s]
    rw [show i.toNat = L.length by omega]
    exact ⟨rfl, rfl⟩
structure FilledI (w w' : World) (B : Nat) (t : Sl) (rt rt' : List Sl) (T : List (List Int)) (s : Sl) (H : List Grp) (V : List (List (List Int))) : Prop where
  own : OwnS3 w' w.heap.size s H
  val : vals H = V
  tab : OwnRows w' B t rt' T
  stp : Stp w w' (foot t rt) (foot t rt')
  far : ∀ x, foot3 s H x → ¬ foot t rt' x
set_option maxHeartbeats 1000000 in
theorem c_filled {Fo : List Int} (hF : Fo.length ≤ 8) : ∀ (m : Nat) {w : World} {B Bf : Nat} {f t : Sl} {rt : List Sl} {T : List (List Int)} (n size : Int), m ≤ 10 → OwnI w Bf f Fo → OwnRows w B t rt T → B ≤ w.heap.size → (∀ x, foot t rt x → f.blk ≠ some x) → T.length = Fo.length → tot T + m ≤ 100 → size + 1 - n = m → 0 ≤ n → size ≤ 1000 →
    Calls PP F.impl_filled #[f.v, t.v, vI n, vI size] w fun e w' => ∃ s H rt', e = .returned s.v ∧ FilledI w w' B t rt rt' T s H (fillV Fo m T n)
  | 0, w, B, Bf, f, t, rt, T, n, size, hm10, hf, ht, hB, hft, hTl, htot, hm, hn0, hn1 => by
    refine impl_filled.calls f t n size ?_
    rw [impl_filled.E_s]
    refine bif_t (decide_eq_true (by omega)) ?_
    refine (c_copied ht.row (by omega) (by omega)).mono ?_
    rintro e w1 ⟨c, rc, rfl, hc, hb1⟩
    refine ⟨c, rfl, ?_⟩
    refine lit1 oneS3 (B := w.heap.size) hb1.size (One.sl c) ?_
    intro s w2 hs hg2 hn2
    have hb2 := below_of_grow hg2
    have hb02 := hb1.trans (hb2.mono hb1.size)
    refine ⟨s, [⟨c, rc, T⟩], rt, rfl, ⟨by simpa using hs, fun g hg => by simp at hg; subst hg; exact hc.grow hb2, by simp⟩, by simp [fillV], ht.grow hb02, Stp.grow hb02, fun x hx h2 => ?_⟩
    have := (ht.footLt h2).2
    rcases hx with hx | ⟨g, hg, hx⟩
    · have := (hs.lt x hx).1; omega
    · simp at hg; subst hg; have := (hc.footLt hx).1; omega
  | m + 1, w, B, Bf, f, t, rt, T, n, size, hm10, hf, ht, hB, hft, hTl, htot, hm, hn0, hn1 => by
    have hfn : f.n = Fo.length := by have := hf.n; simpa using this
    have hrow : ∀ r, r < T.length → (T.getD r []).length ≤ 100 := fun r hr => by
      have := len_le_tot (show T.getD r [] ∈ T by rw [getD_SS hr]; exact List.getElem_mem hr)
      omega
    have hpow : ∀ k, k ≤ 10 → Fo.length ^ k ≤ 1073741824 := fun k hk => Nat.le_trans (Nat.pow_le_pow_left hF k) (Nat.pow_le_pow_right (by omega) hk)
    refine impl_filled.calls f t n size ?_
    rw [impl_filled.E_s]
    refine bif_f (decide_eq_false (by omega)) ?_
    refine lit0 oneS3 (B := w.heap.size) (Nat.le_refl _) ?_
    intro o0 w0 ho0 hg0 hoc
    have hb0 := below_of_grow hg0
    rw [hfn]
    refine impl_filled.L5_rule _ _ _ _ _ _ _ _ _ (I := fun o r w' => 0 ≤ r ∧ r ≤ Fo.length ∧ ∃ H rt1, FilledI w w' B t rt rt1 T o H (fillR Fo m T n r.toNat)) (μ := fun _ r _ => (Fo.length - r).toNat)
      ⟨by omega, by omega, [], rt, OwnS3.nil ho0, by simp [fillR], ht.grow hb0, Stp.grow hb0, fun x hx => by simp [foot3, Sl.blk, hoc] at hx⟩ ?_
    rintro o r w1 ⟨hr0, hr, H, rt1, hO, hv, ht1, hst, hfar⟩
    have hf1 : OwnI w1 Bf f Fo := Own.keeps hf hst.keeps fun x h1 h2 => hft x h2 h1
    have hft1 : ∀ x, foot t rt1 x → ¬ f.blk = some x := hst.apart (F := fun x => f.blk = some x) (fun x hx => (hf.lt x hx).2) hft
    have hB1 : B ≤ w1.heap.size := Nat.le_trans hB hst.keeps.size
    have hsz1 := hst.keeps.size
    have hHl : H.length = (fillR Fo m T n r.toNat).length := by rw [← hv]; simp
    have hHb := fillR_len Fo m T n r.toNat
    have htn := ht1.n
    rw [impl_filled.B5_s]
    refine bif_dec (fun h3 => ?_) (fun h3 => ?_)
    · have hltF : r.toNat < Fo.length := by omega
      have hltT : r.toNat < T.length := by omega
      have hRl := hrow r.toNat hltT
      have es : (r + 1).toNat = r.toNat + 1 := by omega
      have er : w64 (r + 1) = r + 1 := w64_succ hr0 (by omega)
      have hm1 := hpow m (by omega)
      have hHb2 : r.toNat * Fo.length ^ m ≤ 8 * 1073741824 := Nat.mul_le_mul (by omega) hm1
      have stay : ∀ w2, Drew w1 w2 → ¬ okR Fo T r.toNat → ∃ o_n r_n, impl_filled.emb5 f t n size o Fo.length (w64 (r + 1)) = impl_filled.emb5 f t n size o_n Fo.length r_n ∧ (0 ≤ r_n ∧ r_n ≤ Fo.length ∧ ∃ H rt1, FilledI w w2 B t rt rt1 T o_n H (fillR Fo m T n r_n.toNat)) ∧ ((Fo.length : Int) - r_n).toNat < ((Fo.length : Int) - r).toNat := by
        intro w2 hd2 hno
        refine ⟨o, r + 1, by rw [er], ⟨by omega, by omega, H, rt1, ⟨hO.heap hd2.heap', ?_, ht1.heap hd2.heap', hst.trans (Stp.grow (hd2.below _)), hfar⟩⟩, by omega⟩
        rw [es, fillR_succ, if_neg hno, List.append_nil]; exact hv
      have step : ∀ w2, Drew w1 w2 → okR Fo T r.toNat → idxK 1 t r fun a5 => load1 .sl a5 w2 fun (ξ : Sl) => sem1 .sl PP (Instr.buildSlice T_Sint 1 #[(0, vI n)]) w2 fun (ρ7 : Sl) w4 =>
          sem1 .sl PP (Builtin.append_ #[T_Sint, T_Sint] T_Sint #[ξ.v, ρ7.v]) w4 fun (ρ9 : Sl) w5 => idxK 1 t r fun a6 => storeC a6 ρ9.v w5 fun w6 => call1 .sl PP F.impl_filled #[f.v, t.v, vI (w64 (n + 1)), vI size] w6 fun (ρ21 : Sl) w7 =>
          sem1 .sl PP (Builtin.append_ #[T_SSSint, T_SSSint] T_SSSint #[o.v, ρ21.v]) w7 fun (ρ23 : Sl) w8 => drewAll w8 fun w9 => idxK 1 t r fun a26 => idxK 1 t r fun a27 =>
          (load1 .sl a26 w9 fun (ξ28 : Sl) => load1 .sl a27 w9 fun (ξ29 : Sl) => cutK 1 ξ28 none (some (w64 ((ξ29.n : Int) - 1))) fun (s30 : Sl) => idxK 1 t r fun a31 => storeC a31 s30.v w9 fun w10 =>
            ∃ o_n r_n, impl_filled.emb5 f t n size ρ23 Fo.length (w64 (r + 1)) = impl_filled.emb5 f t n size o_n Fo.length r_n ∧ (0 ≤ r_n ∧ r_n ≤ Fo.length ∧ ∃ H rt1, FilledI w w10 B t rt rt1 T o_n H (fillR Fo m T n r_n.toNat)) ∧ ((Fo.length : Int) - r_n).toNat < ((Fo.length : Int) - r).toNat) ∧
          (load1 .sl a27 w9 fun (ξ33 : Sl) => load1 .sl a26 w9 fun (ξ34 : Sl) => cutK 1 ξ34 none (some (w64 ((ξ33.n : Int) - 1))) fun (s35 : Sl) => idxK 1 t r fun a36 => storeC a36 s35.v w9 fun w10 =>
            ∃ o_n r_n, impl_filled.emb5 f t n size ρ23 Fo.length (w64 (r + 1)) = impl_filled.emb5 f t n size o_n Fo.length r_n ∧ (0 ≤ r_n ∧ r_n ≤ Fo.length ∧ ∃ H rt1, FilledI w w10 B t rt rt1 T o_n H (fillR Fo m T n r_n.toNat)) ∧ ((Fo.length : Int) - r_n).toNat < ((Fo.length : Int) - r).toNat) := by
        intro w2 hd2 hok
        have hh := hd2.heap'
        have hB2 : B ≤ w2.heap.size := by rw [hh]; exact hB1
        have hO2 := hO.heap hh
        refine (ht1.heap hh).appendAtF hr0 (by omega) hB2 (by omega) fun w6 rt2 ht6 hst6 => ?_
        have hst06 : Stp w w6 (foot t rt) (foot t rt2) := (hst.trans (Stp.grow (hd2.below _))).trans hst6
        have hB6 : B ≤ w6.heap.size := Nat.le_trans hB2 hst6.keeps.size
        have hO6 := hO2.keepsF hst6.keeps hfar
        have hfar6 : ∀ x, foot3 o H x → ¬ foot t rt2 x := fun x h1 h2 => hst6.apart (F := foot3 o H) (fun x hx => (hO2.footLt hx).2) (fun x h3 h4 => hfar x h4 h3) x h2 h1
        have hf6 : OwnI w6 Bf f Fo := Own.keeps (Own.heap hf1 hh) hst6.keeps fun x h1 h2 => hft1 x h2 h1
        have hft6 : ∀ x, foot t rt2 x → ¬ f.blk = some x := hst6.apart (F := fun x => f.blk = some x) (fun x hx => by rw [hh]; exact (hf1.lt x hx).2) hft1
        rw [w64_add (a := n) (b := 1) (by omega) (by omega) (by omega) (by omega)]
        have htt := tot_set hltT (T.getD r.toNat [] ++ [n])
        rw [List.length_append, List.length_singleton] at htt
        refine (c_filled hF m (n + 1) size (by omega) hf6 ht6 hB6 hft6 (by rw [List.length_set]; exact hTl) (by omega) (by omega) (by omega) (by omega)).mono ?_
        rintro e w7 ⟨s2, H2, rt3, rfl, h7o, h7v, h7t, h7s, h7f⟩
        refine ⟨s2, rfl, ?_⟩
        have hO7 := hO6.keepsF h7s.keeps hfar6
        have hfar7 : ∀ x, foot3 o H x → ¬ foot t rt3 x := fun x h1 h2 => h7s.apart (F := foot3 o H) (fun x hx => (hO6.footLt hx).2) (fun x h3 h4 => hfar6 x h4 h3) x h2 h1
        have hsz6 := hst06.keeps.size
        have hsz7 := h7s.keeps.size
        have hH2l : H2.length ≤ 1073741824 := by
          have h8 := fillV_len Fo m (T.set r.toNat (T.getD r.toNat [] ++ [n])) (n + 1)
          have h9 : H2.length = (fillV Fo m (T.set r.toNat (T.getD r.toNat [] ++ [n])) (n + 1)).length := by rw [← h7v]; simp
          omega
        refine append_many3 hO7 (by omega) (h7o.mono (by omega)) (fun g hg k hk x h1 h2 => by
          have := (hO6.footLt (.inr ⟨g, hg, h1⟩)).2
          have := (h7o.footLt (.inr ⟨k, hk, h2⟩)).1
          omega) (by omega) ?_
        intro o' w8 ho8 hg8 hn8
        have k8 := keeps_grown hg8
        have ht8 := h7t.keepsF k8 fun x h1 h2 => OwnRows.outer hO7.out h7t h2 h1
        have hst07 := hst06.trans h7s
        have hst08 : Stp w w8 (foot t rt) (foot t rt3) := by
          refine ⟨⟨k8.os.trans hst07.keeps.os, k8.tape.trans hst07.keeps.tape, k8.output.trans hst07.keeps.output, Nat.le_trans hst07.keeps.size k8.size, fun x hx hn => ?_⟩, hst07.next⟩
          rw [k8.block x (Nat.lt_of_lt_of_le hx hst07.keeps.size) (fun e => by have := (hO7.out.lt x e).1; omega)]
          exact hst07.keeps.block x hx hn
        have hfar8 : ∀ x, foot3 o' (H ++ H2) x → ¬ foot t rt3 x := by
          rintro x (h1 | ⟨g, hg, h1⟩) h2
          · rcases hn8 x h1 with h3 | h3
            · exact hfar7 x (.inl h3) h2
            · have := (h7t.footLt h2).2; omega
          · rcases List.mem_append.1 hg with hg | hg
            · exact hfar7 x (.inr ⟨g, hg, h1⟩) h2
            · exact h7f x (.inr ⟨g, hg, h1⟩) h2
        refine drew_intro fun w9 hd9 => ?_
        have hh9 := hd9.heap'
        have ht9 := ht8.heap hh9
        have ho9 := ho8.heap hh9
        have hst09 : Stp w w9 (foot t rt) (foot t rt3) := hst08.trans (Stp.grow (hd9.below _))
        obtain ⟨u, hu, hou⟩ := ht9.get (i := r.toNat) (by rw [List.length_set]; exact hltT)
        have eu : (T.set r.toNat (T.getD r.toNat [] ++ [n])).getD r.toNat [] = T.getD r.toNat [] ++ [n] := by rw [getD_setR, if_pos ⟨rfl, hltT⟩]
        rw [eu] at hou
        have hun : u.n = (T.getD r.toNat []).length + 1 := by have := hou.n; simpa using this
        refine ht9.placeT hr0 (by rw [List.length_set]; omega) hu fun a26 _ hc26 => ?_
        refine ht9.placeT hr0 (by rw [List.length_set]; omega) hu fun a27 _ hc27 => ?_
        have hum := List.mem_of_getElem? hu
        have fin : cutK 1 u none (some (w64 ((u.n : Int) - 1))) fun (s30 : Sl) => idxK 1 t r fun a31 => storeC a31 s30.v w9 fun w10 =>
            ∃ o_n r_n, impl_filled.emb5 f t n size o' Fo.length (w64 (r + 1)) = impl_filled.emb5 f t n size o_n Fo.length r_n ∧ (0 ≤ r_n ∧ r_n ≤ Fo.length ∧ ∃ H rt1, FilledI w w10 B t rt rt1 T o_n H (fillR Fo m T n r_n.toNat)) ∧ ((Fo.length : Int) - r_n).toNat < ((Fo.length : Int) - r).toNat := by
          rw [hun, w64_id (n := (((T.getD r.toNat []).length + 1 : Nat) : Int) - 1) (by omega) (by omega), show (((T.getD r.toNat []).length + 1 : Nat) : Int) - 1 = ((T.getD r.toNat []).length : Int) by omega]
          refine Own.pop hou (by omega) (by rw [List.length_map, List.length_append, List.length_singleton]; omega) fun s hs hblk => ?_
          rw [Int.toNat_natCast, ← List.map_take, List.take_left] at hs
          refine ht9.storeK (S := fun _ => False) hr0 (by rw [List.length_set]; omega) hu (Keeps.refl _ _) (fun _ _ hf => hf.elim) hs (fun g hg => .inl (by rw [← hblk]; exact hg)) fun w10 ht10 hg10 st10 => ?_
          have eT : (T.set r.toNat (T.getD r.toNat [] ++ [n])).set r.toNat (T.getD r.toNat []) = T := by
            rw [List.set_set, getD_SS hltT, List.set_getElem_self]
          rw [eT] at ht10
          have st10' : Stp w9 w10 (foot t rt3) (foot t (rt3.set r.toNat s)) := ⟨st10.keeps.mono fun k e => e.elim False.elim id, fun g hg => (st10.next g hg).imp (fun e => e.elim False.elim id) id⟩
          have ho10 := ho9.keepsF st10'.keeps fun x h1 h2 => hfar8 x h1 h2
          refine ⟨o', r + 1, by rw [er], ⟨by omega, by omega, H ++ H2, rt3.set r.toNat s, ⟨ho10, ?_, ht10, hst09.trans st10', fun x h1 h2 => ?_⟩⟩, by omega⟩
          · rw [es, fillR_succ, if_pos hok, ← hv, ← h7v]; simp
          · refine hfar8 x h1 ?_
            rcases h2 with h2 | ⟨q, hq, h2⟩
            · exact .inl h2
            · rcases List.mem_or_eq_of_mem_set hq with hq | rfl
              · exact .inr ⟨q, hq, h2⟩
              · exact .inr ⟨u, hum, by rw [← hblk]; exact h2⟩
        exact ⟨load_sl hc26 (load_sl hc27 fin), load_sl hc27 (load_sl hc26 fin)⟩
      refine ht1.load hr0 (by omega) fun ρ _ hρ => ?_
      have hρn : ρ.n = (T.getD r.toNat []).length := by have := hρ.n; simpa using this
      refine RowI.get hf1.row hr0 (by omega) ?_
      rw [hρn]
      refine bif_dec (fun h4 => ?_) (fun h4 => ?_)
      · refine bif_intro (fun h5 => ?_) (fun h5 => ?_)
        · have h5' : r = 0 := eq_of_beq h5
          refine drew_intro fun w2 hd2 => ?_
          exact step w2 hd2 ⟨h4, .inl (by omega)⟩
        · have h5' : r ≠ 0 := ne_of_beq_false h5
          have e1 : w64 (r - 1) = r - 1 := w64_id (by omega) (by omega)
          rw [e1]
          refine ht1.load (i := r - 1) (by omega) (by omega) fun ρ3 _ hρ3 => ?_
          have hρ3n : ρ3.n = (T.getD (r - 1).toNat []).length := by have := hρ3.n; simpa using this
          refine ht1.load hr0 (by omega) fun ρ2 _ hρ2 => ?_
          have hρ2n : ρ2.n = (T.getD r.toNat []).length := by have := hρ2.n; simpa using this
          rw [hρ2n, hρ3n, show (r - 1).toNat = r.toNat - 1 by omega]
          refine drew_intro fun w2 hd2 => ?_
          refine bif_dec (fun h6 => ?_) (fun h6 => ?_)
          · exact step w2 hd2 ⟨h4, .inr (by omega)⟩
          · exact stay w2 hd2 fun hh => by rcases hh.2 with h7 | h7 <;> omega
      · refine drew_intro fun w2 hd2 => ?_
        exact stay w2 hd2 fun hh => h4 hh.1
    · rw [impl_filled.A5_0_s]
      refine ⟨o, H, rt1, rfl, hO, ?_, ht1, hst, hfar⟩
      rw [fillV_succ, show Fo.length = r.toNat by omega]; exact hv
open Classical in
theorem c_implTableauxOf {w : World} {Bf : Nat} {f : Sl} {Fo : List Int} (hf : OwnI w Bf f Fo) (hL : Fo.length < 2^38) (hbd : ∀ x ∈ Fo, -9223372036854775808 ≤ x ∧ x ≤ 9223372036854775807) :
    Calls PP F.impl_TableauxOf #[f.v] w fun e w' => ∃ (s : Sl) (G : List Grp), e = .returned s.v ∧ OwnS3 w' w.heap.size s G ∧ vals G = TableauxOfV Fo ∧ Below w.heap.size w w' := by
  have hfn : f.n = Fo.length := by have := hf.n; simpa using this
  refine impl_TableauxOf.calls f ?_
  rw [impl_TableauxOf.E_s]
  refine Quiet.call1 (s := .bool) (c_isForm hf.row (by omega) hbd (most := 6) (by omega) (by omega)) ?_
  intro w1 hd1
  have hb1 := hd1.below w.heap.size
  refine bif_intro (fun h => ?_) (fun h => ?_)
  · have hn : ¬ FormOk Fo 6 := by simpa using h
    rw [TableauxOfV, if_neg hn]
    exact ⟨Sl.nil, [], rfl, OwnS3.nil (Own.nil _ _ _), rfl, hb1⟩
  have hP : FormOk Fo 6 := by simpa using h
  rw [TableauxOfV, if_pos hP]
  obtain ⟨f1, f2, f3, f4⟩ := formOk_facts hP
  obtain ⟨mN, hm⟩ : ∃ mN : Nat, sm Fo Fo.length = mN := ⟨(sm Fo Fo.length).toNat, by omega⟩
  rw [hm, Int.toNat_natCast, hfn]
  refine drew_intro fun w2 hd2 => ?_
  have hb2 : Below w.heap.size w w2 := hb1.trans (hd2.below _)
  have hf2 := Own.grow hf hb2
  have fin : ∀ w3 t, Below w.heap.size w w3 → Own w3 w.heap.size T_Sint t (List.replicate Fo.length Sl.nil.v) → call1 .sl PP F.impl_filled #[f.v, t.v, vI 1, vI (mN : Int)] w3 fun (ρ7 : Sl) w8 =>
      ∃ (s : Sl) (G : List Grp), Ending.returned ρ7.v = .returned s.v ∧ OwnS3 w8 w.heap.size s G ∧ vals G = fillV Fo mN (List.replicate Fo.length []) 1 ∧ Below w.heap.size w w8 := by
    intro w3 t hb3 ht
    have htr := OwnRows.replicate ht
    refine (c_filled (by omega) mN 1 mN (by omega) (Own.grow hf hb3) htr hb3.size (fun x h1 h2 => by have := (htr.footLt h1).1; have := (hf.lt x h2).2; omega) (by rw [List.length_replicate]) (by rw [tot_replicate]; omega) (by omega) (by omega) (by omega)).mono ?_
    rintro e w8 ⟨s, H, rt', rfl, h8⟩
    exact ⟨s, rfl, s, H, rfl, h8.own.mono hb3.size, h8.val, hb3.trans (h8.stp.below (fun g hg => (htr.footLt hg).1) hb3.size)⟩
  refine ⟨?_, ?_⟩
  · refine make_own oneSint (B := w.heap.size) hb2.size (by omega) (by omega) ?_
    intro t w4 ht hg4 _
    have hb4 := hb2.trans ((below_of_grow hg4).mono hb2.size)
    rw [Int.toNat_natCast] at ht
    refine (c_total (hf.row.grow hb4) f4 (by omega)).mono ?_
    rintro e w5 ⟨rfl, rfl⟩
    refine ⟨_, rfl, ?_⟩
    rw [hm]
    exact fin w5 t hb4 ht
  · refine (c_total hf2.row f4 (by omega)).mono ?_
    rintro e w5 ⟨rfl, rfl⟩
    refine ⟨_, rfl, ?_⟩
    rw [hm]
    refine make_own oneSint (B := w.heap.size) hb2.size (by omega) (by omega) ?_
    intro t w4 ht hg4 _
    have hb4 := hb2.trans ((below_of_grow hg4).mono hb2.size)
    rw [Int.toNat_natCast] at ht
    exact fin w4 t hb4 ht
theorem TableauxOfV_len (Fo : List Int) : (TableauxOfV Fo).length < 2^38 ∧ tot3 (TableauxOfV Fo) < 2^38 := by
  classical
  by_cases h : FormOk Fo 6
  · obtain ⟨f1, f2, f3, f4⟩ := formOk_facts h
    rw [TableauxOfV, if_pos h]
    have h1 := fillV_len Fo (sm Fo Fo.length).toNat (List.replicate Fo.length []) 1
    have h2 := pow_small (a := Fo.length) (m := (sm Fo Fo.length).toNat) f1 (by omega)
    have h3 := tot3_le_of (G := fillV Fo (sm Fo Fo.length).toNat (List.replicate Fo.length []) 1) (c := 20) fun U hU => by
      obtain ⟨a1, a2⟩ := fill_shape Fo _ _ _ (by rw [List.length_replicate]) U hU
      rw [tot_replicate] at a2
      omega
    omega
  · rw [TableauxOfV, if_neg h]; simp [tot3]
theorem lawC_FnExactTableauxOf (a0 : Sl) (L0 : List Int) (w : World) (ha0 : RowI w a0 L0) (hbd0 : ∀ x ∈ L0, -9223372036854775808 ≤ x ∧ x ≤ 9223372036854775807) :
    Calls PP F.laws_FnExactTableauxOf #[a0.v] w fun e w' => e = .returned (.bool true) ∧ Below w.heap.size w w' := by
  obtain ⟨hl, ht⟩ := TableauxOfV_len L0
  have han0 : a0.n = L0.length := by have := ha0.n; simpa using this
  refine laws_FnExactTableauxOf.calls a0 ?_
  rw [laws_FnExactTableauxOf.E_s]
  refine bif_dec (fun h => ⟨rfl, Below.refl _ _⟩) (fun h0s => ?_)
  have hL0 : L0.length < 2 ^ 38 := by omega
  refine (c_toIntS ha0 (by omega)).mono ?_
  rintro e w1 ⟨x1, rfl, hx1, b1⟩
  refine ⟨x1, rfl, ?_⟩
  refine (c_specTableauxOf hx1 hL0).mono ?_
  rintro e w2 ⟨s, G, rfl, hs, hG, b2⟩
  refine ⟨s, rfl, ?_⟩
  have b02 := b1.trans (b2.mono b1.size)
  refine (c_toIntS (ha0.grow b02) (by omega)).mono ?_
  rintro e w3 ⟨x3, rfl, hx3, b3⟩
  refine ⟨x3, rfl, ?_⟩
  have b03 := b02.trans (b3.mono b02.size)
  refine (c_implTableauxOf hx3 hL0 hbd0).mono ?_
  rintro e w4 ⟨t, H, rfl, ht4, hH, b4⟩
  refine ⟨t, rfl, ?_⟩
  have b04 := b03.trans (b4.mono b03.size)
  have hs4 := (hs.grow b3).grow b4
  have hx4 := Own.grow hx3 b4
  have hHl : H.length = (TableauxOfV L0).length := by rw [← hH]; simp
  refine Quiet.call1 (s := .bool) (c_eqIntSSS ht4.row hs4.row (by rw [List.length_map]; omega) (by rw [hH]; exact ht)) ?_
  intro w5 d5
  refine bif_f (by simp [hG, hH]) ?_
  have b05 := b04.trans (d5.below _)
  have ht5 := ht4.heap d5.heap'
  have hs5 := hs4.heap d5.heap'
  have hx5 := Own.heap hx4 d5.heap'
  refine (c_toIntS (ha0.grow b05) (by omega)).mono ?_
  rintro e w6 ⟨x6, rfl, hx6, b6⟩
  refine ⟨x6, rfl, ?_⟩
  have b06 := b05.trans (b6.mono b05.size)
  have hx56 := Own.grow hx5 b6
  refine Quiet.call1 (s := .bool) (c_eqIntS hx56.row hx6.row (by omega)) ?_
  intro w7 d7
  refine bif_f (by simp) ?_
  have b07 := b06.trans (d7.below _)
  have ht7 := (ht5.grow b6).heap d7.heap'
  have hs7 := (hs5.grow b6).heap d7.heap'
  have hx7 := Own.heap hx56 d7.heap'
  refine (c_markIntS hx7 (by omega) (k := 1) (by omega) (by omega)).mono ?_
  rintro e w8 ⟨rfl, _, g8, z8⟩
  refine ⟨_, rfl, ?_⟩
  refine bif_dec (fun h => by omega) (fun _ => ?_)
  have k8 := keeps_grown g8
  have hxb : ∀ x, x3.blk = some x → w2.heap.size ≤ x ∧ x < w3.heap.size := fun x hx => hx3.lt x hx
  have hsz2 := b02.size
  have b08 : Below w.heap.size w w8 := b07.trans (k8.below (fun x hx => by have := (hxb x hx).1; omega) b07.size)
  have ht8 := ht7.keepsF k8 fun x h1 h2 => by have := (ht4.footLt h1).1; have := (hxb x h2).2; omega
  have hs8 := hs7.keepsF k8 fun x h1 h2 => by have := (hs.footLt h1).2; have := (hxb x h2).1; omega
  refine Quiet.call1 (s := .bool) (c_eqIntSSS ht8.row hs8.row (by rw [List.length_map]; omega) (by rw [hH]; exact ht)) ?_
  intro w9 d9
  refine bif_f (by simp [hG, hH]) ?_
  have b09 := b08.trans (d9.below _)
  have ht9 := ht8.heap d9.heap'
  have hs9 := hs8.heap d9.heap'
  refine (c_markIntSSS ht9 (by omega) (by rw [hH]; exact ht) (k := 1) (by omega) (by omega)).mono ?_
  rintro e w10 ⟨M, rfl, hM, hmk, hkp, hz10⟩
  refine ⟨_, rfl, ?_⟩
  have hft : ∀ x, foot3 t H x → w3.heap.size ≤ x := fun x hx => (ht4.footLt hx).1
  have hsz3 := b03.size
  have b010 : Below w.heap.size w w10 := b09.trans (hkp.below (fun x hx => by have := hft x hx; omega) b09.size)
  have hs10 := hs9.keepsF hkp fun x h1 h2 => by have := (hs.footLt h1).2; have := hft x h2; have := b3.size; omega
  refine (c_heldIntSSS (G := H) hM.row hmk (by omega) (by rw [hH]; exact ht) (by omega) (by omega)).mono ?_
  rintro e w11 ⟨rfl, d11⟩
  refine ⟨_, rfl, ?_⟩
  refine bif_dec (fun h => by omega) (fun _ => ?_)
  refine bif_f (by simp) ?_
  have b011 := b010.trans (d11.below _)
  refine (c_toIntS (ha0.grow b011) (by omega)).mono ?_
  rintro e w12 ⟨x12, rfl, hx12, b12⟩
  refine ⟨x12, rfl, ?_⟩
  have b012 := b011.trans (b12.mono b011.size)
  refine (c_implTableauxOf hx12 hL0 hbd0).mono ?_
  rintro e w13 ⟨u, U, rfl, hu, hU, b13⟩
  refine ⟨u, rfl, ?_⟩
  have b013 := b012.trans (b13.mono b012.size)
  refine Quiet.call1 (s := .bool) (c_eqIntSSS hu.row (((hs10.heap d11.heap').grow b12).grow b13).row (by rw [hU]; exact hl) (by rw [hU]; exact ht)) ?_
  intro w14 d14
  refine bif_f (by simp [hG, hU]) ?_
  refine (c_heldIntSSS (G := H) ((((hM.row.heap d11.heap').grow b12).grow b13).heap d14.heap') hmk (by omega) (by rw [hH]; exact ht) (by omega) (by omega)).mono ?_
  rintro e w15 ⟨rfl, d15⟩
  refine ⟨_, rfl, ?_⟩
  refine bif_dec (fun h => by omega) (fun _ => ?_)
  refine bif_f (by simp) ?_
  exact ⟨rfl, (b013.trans (d14.below _)).trans (d15.below _)⟩
end Go.Proofs.Ytfainpmcdfckkaa
