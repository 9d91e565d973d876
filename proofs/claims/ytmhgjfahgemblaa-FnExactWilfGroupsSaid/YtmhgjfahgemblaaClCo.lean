/- ClassCounts: both texts. -/
import Derived.Test.YtmhgjfahgemblaaCodeCc
import Derived.Test.YtmhgjfahgemblaaCc0
import Derived.Test.YtmhgjfahgemblaaWilfMath
import Derived.Test.YtmhgjfahgemblaaPermMath
namespace Go.Proofs.Ytmhgjfahgemblaa
open Go Go.RowKit
set_option maxRecDepth 100000

def GV (LL : List (List Int)) (n : Nat) (q : List Int) : List (List Int) := ((idn n).map (insV q)).filter (avoidsV LL)
theorem nextV_eq (LL : List (List Int)) (n : Nat) (l : List (List Int)) : nextV LL n l = l.flatMap (GV LL n) := rfl
theorem GV_len (LL : List (List Int)) (n : Nat) (q : List Int) : (GV LL n q).length ≤ n := by
  have := List.length_filter_le (avoidsV LL) ((idn n).map (insV q))
  rw [List.length_map, idn_length] at this
  exact this
theorem GV_succ (LL : List (List Int)) (v : Nat) (q : List Int) : GV LL (v + 1) q = GV LL v q ++ (if avoidsV LL (insV q ((v : Int) + 1)) = true then [insV q ((v : Int) + 1)] else []) := by
  unfold GV
  rw [idn_succ, List.map_append, List.filter_append]
  congr 1
  simp only [List.map_cons, List.map_nil, List.filter_cons, List.filter_nil]
theorem c_l12Next {w : World} {l last : Sl} {LL LAST : List (List Int)} (hl : RowSS w l LL) (hB : BasisOk LL) (hlast : RowSS w last LAST) (k : Nat) (hk : k ≤ 5) (hlen : ∀ p ∈ LAST, p.length = k)
    (hbd : ∀ p ∈ LAST, ∀ x ∈ p, 0 ≤ x ∧ x ≤ 8) (hc : LAST.length ≤ 46656) :
    Calls PP F.spec_l12Next #[l.v, last.v, vI (k + 1 : Nat)] w fun e w' => ∃ s : Sl, e = .returned s.v ∧ OwnSS w' w.heap.size s (nextV LL (k + 1) LAST) ∧ Below w.heap.size w w' := by
  have hlastn := hlast.n
  have hl8 := hB.1
  refine spec_l12Next.calls l last (k + 1 : Nat) ?_
  rw [spec_l12Next.E_s]
  refine lit0 oneSint (B := w.heap.size) (Nat.le_refl _) ?_
  intro o w1 ho hg1 _
  have hb1 := below_of_grow hg1
  refine spec_l12Next.L3_rule _ _ _ _ _ _ _ (I := fun o i w' => 0 ≤ i ∧ i ≤ LAST.length ∧ Below w.heap.size w w' ∧ OwnSS w' w.heap.size o ((LAST.take i.toNat).flatMap (GV LL (k + 1)))) (μ := fun _ i _ => (LAST.length - i).toNat)
    ⟨by omega, by omega, hb1, OwnSS.nil ho⟩ ?_
  rintro o i w' ⟨hi0, hi, hb, ho⟩
  rw [spec_l12Next.B3_s, hlastn]
  refine bif_dec (fun h3 => ?_) (fun h3 => ?_)
  · have hlt : i.toNat < LAST.length := by omega
    have hql := hlen _ (List.getElem_mem hlt)
    have hqb := hbd _ (List.getElem_mem hlt)
    have hsn : (LAST.take (i.toNat + 1)).flatMap (GV LL (k + 1)) = (LAST.take i.toNat).flatMap (GV LL (k + 1)) ++ GV LL (k + 1) LAST[i.toNat] := by
      rw [List.take_succ_eq_append_getElem hlt, flat_snoc']
    have hfl : ((LAST.take i.toNat).flatMap (GV LL (k + 1))).length ≤ 46656 * 6 := by
      have h1 := length_flatMap_le (LAST.take i.toNat) (GV LL (k + 1)) 6 (fun q _ => Nat.le_trans (GV_len LL (k + 1) q) (by omega))
      rw [List.length_take] at h1
      omega
    have hget : LAST.getD i.toNat [] = LAST[i.toNat] := getD_SS hlt
    generalize hq : LAST[i.toNat] = q at *
    have ei : (i + 1).toNat = i.toNat + 1 := by omega
    refine spec_l12Next.L6_rule _ _ _ _ _ _ _ _ (I := fun o v w2 => 1 ≤ v ∧ v ≤ (k + 2 : Nat) ∧ Below w.heap.size w w2 ∧ OwnSS w2 w.heap.size o ((LAST.take i.toNat).flatMap (GV LL (k + 1)) ++ GV LL (v - 1).toNat q)) (μ := fun _ v _ => ((k + 2 : Nat) - v).toNat)
      ⟨by omega, by omega, hb, by simpa [GV, idn] using ho⟩ ?_
    rintro o v w2 ⟨hv1, hv, hb2, ho⟩
    rw [spec_l12Next.B6_s]
    refine bif_dec (fun h5 => ?_) (fun h5 => ?_)
    · refine lit0 oneInt (B := w2.heap.size) (Nat.le_refl _) ?_
      intro p w3 hp hg3 _
      have hb3 := below_of_grow hg3
      refine spec_l12Next.L10_rule _ _ _ _ _ _ _ _ _ _ (I := fun p j w4 => 0 ≤ j ∧ j ≤ k ∧ Below w2.heap.size w2 w4 ∧ OwnI w4 w2.heap.size p ((q.take j.toNat).map (bump v))) (μ := fun _ j _ => (k - j).toNat)
        ⟨by omega, by omega, hb3, hp⟩ ?_
      rintro p j w4 ⟨hj0, hj, hb4, hp⟩
      have hbw4 := hb2.trans (hb4.mono hb2.size)
      rw [spec_l12Next.B10_s]
      refine RowSS.get (hlast.grow hbw4) hi0 (by omega) fun r hr => ?_
      rw [hget] at hr
      have hrn : r.n = k := by have := hr.n; simpa [hql] using this
      simp only [hrn]
      refine bif_dec (fun h7 => ?_) (fun h7 => ?_)
      · have hlt2 : j.toNat < q.length := by omega
        refine drew_intro fun w5 hd => ?_
        have hb5 := hb4.trans ((hd.below _).mono hb4.size)
        have hbw5 := hb2.trans (hb5.mono hb2.size)
        have hp5 := hp.heap hd.heap'
        refine RowSS.place (hlast.grow hbw5) hi0 (by omega) fun a16 r16 h16 hr16 => ?_
        refine RowSS.place (hlast.grow hbw5) hi0 (by omega) fun a17 r17 h17 hr17 => ?_
        rw [hget] at hr16 hr17
        have hx := hqb _ (List.getElem_mem hlt2)
        have hgx : q.getD j.toNat 0 = q[j.toNat] := getD_lt hlt2
        have hbx : w64 (q[j.toNat] + (if decide (q[j.toNat] ≥ v) = true then 1 else 0)) = bump v q[j.toNat] := by
          unfold bump
          by_cases h : q[j.toNat] ≥ v
          · rw [if_pos (by simpa using h), if_pos h, w64_succ (by omega) (by omega)]
          · rw [if_neg (by simpa using h), if_neg h, w64_id (by omega) (by omega)]; omega
        have h0j : j < (q.length : Int) := by omega
        have fin : ∀ (t : Int), t = (if decide (q[j.toNat] ≥ v) = true then 1 else 0) → sem1 .sl PP (Instr.buildSlice T_Sint 1 #[(0, vI (w64 (q[j.toNat] + t)))]) w5 fun (ρ25 : Sl) ω26 =>
            sem1 .sl PP (Builtin.append_ #[T_Sint, T_Sint] T_Sint #[Sl.v p, Sl.v ρ25]) ω26 fun (ρ27 : Sl) ω28 =>
            (fun e2 w2' => ∃ p_10_n i_11_n, e2 = spec_l12Next.emb10 l last (k + 1 : Nat) o i v p_10_n i_11_n ∧ (0 ≤ i_11_n ∧ i_11_n ≤ k ∧ Below w2.heap.size w2 w2' ∧ OwnI w2' w2.heap.size p_10_n ((q.take i_11_n.toNat).map (bump v))) ∧ (k - i_11_n).toNat < (k - j).toNat) (spec_l12Next.emb10 l last (k + 1 : Nat) o i v ρ27 (w64 (j + 1))) ω28 := by
          rintro t rfl
          rw [hbx]
          refine append_int hp5 hb5.size (by rw [List.length_map, List.length_take]; omega) ?_
          intro p' w6 hp6 hg6 _
          refine ⟨p', j + 1, by rw [w64_succ hj0 (by omega)], ⟨by omega, by omega, hb5.grown hg6 hb5.size (fun g hg => (hp5.lt g hg).1), ?_⟩, by omega⟩
          rw [show (j + 1).toNat = j.toNat + 1 by omega, List.take_succ_eq_append_getElem hlt2, List.map_append]
          exact hp6
        clear hbx
        repeat' first
          | exact fin _ rfl
          | refine And.intro ?_ ?_
          | refine load_sl h16 ?_
          | refine load_sl h17 ?_
          | (refine RowI.place hr16 hj0 h0j fun a ha => ?_; rw [hgx] at ha)
          | (refine RowI.place hr17 hj0 h0j fun a ha => ?_; rw [hgx] at ha)
          | refine load_int (by assumption) ?_
          | refine Pure.pcall1 (s := .int .i64) (c_l1Bit _) ?_
      · rw [spec_l12Next.A10_4_s]
        have ej : j.toNat = q.length := by omega
        rw [ej, List.take_length] at hp
        refine append_int hp hb4.size (by rw [List.length_map]; omega) ?_
        intro p' w5 hp5 hg5 _
        have hp5 : OwnI w5 w2.heap.size p' (insV q v) := hp5
        have hb5 := hb4.grown hg5 hb4.size (fun g hg => (hp.lt g hg).1)
        have hbw5 := hb2.trans (hb5.mono hb2.size)
        have hil : (insV q v).length ≤ 8 := by rw [insV_length]; omega
        refine (c_l12Avoids (hl.grow hbw5) hp5.row hil (by omega) hB.len).mono ?_
        rintro e w6 ⟨rfl, hb6⟩
        refine ⟨_, rfl, ?_⟩
        have hb26 := hb5.trans (hb6.mono hb5.size)
        have hbw6 := hb2.trans (hb26.mono hb2.size)
        have hp6 := hp5.grow hb6
        obtain ⟨m, rfl⟩ : ∃ m : Nat, v = (m : Int) + 1 := ⟨(v - 1).toNat, by omega⟩
        have em : ((m : Int) + 1 - 1).toNat = m := by omega
        have em2 : ((m : Int) + 1 + 1 - 1).toNat = m + 1 := by omega
        have hGl := GV_len LL m q
        rw [em] at ho
        refine bif_intro (fun h8 => ?_) (fun h8 => ?_)
        · refine append_new ho hb26 hb2.size hp6 (by rw [List.length_append]; omega) ?_
          intro o' w7 ho7 hg7 _
          refine ⟨o', (m : Int) + 1 + 1, by rw [w64_succ (by omega) (by omega)], ⟨by omega, by omega, hbw6.grown hg7 hbw6.size (fun g hg => (ho.lt g hg).1), ?_⟩, by omega⟩
          rw [em2, GV_succ, if_pos h8, ← List.append_assoc]
          exact ho7
        · refine ⟨o, (m : Int) + 1 + 1, by rw [w64_succ (by omega) (by omega)], ⟨by omega, by omega, hbw6, ?_⟩, by omega⟩
          rw [em2, GV_succ, if_neg (by simp [h8]), List.append_nil]
          exact ho.grow hb26
    · rw [spec_l12Next.A6_2_s]
      refine ⟨o, i + 1, by rw [w64_succ hi0 (by omega)], ⟨by omega, by omega, hb2, ?_⟩, by omega⟩
      rw [ei, hsn]
      rw [show (v - 1).toNat = k + 1 by omega] at ho
      exact ho
  · rw [spec_l12Next.A3_0_s]
    rw [show i.toNat = LAST.length by omega, List.take_length] at ho
    exact ⟨o, rfl, by rw [nextV_eq]; exact ho, hb⟩
/-! ### ClassCounts -/
def cls (LL : List (List Int)) (k : Nat) : Int := ((classV LL k).length : Int)
def clsS (LL : List (List Int)) (m : Nat) : List Int := (List.range m).map (cls LL)
theorem clsS_succ (LL : List (List Int)) (m : Nat) : clsS LL (m + 1) = clsS LL m ++ [cls LL m] := by simp [clsS, List.range_succ]
theorem clsS_len (LL : List (List Int)) (m : Nat) : (clsS LL m).length = m := by simp [clsS]
open Classical in
noncomputable def ClassCountsV (LL : List (List Int)) (n : Int) : List Int := if CntOk LL n then clsS LL (n.toNat + 1) else []
theorem ClassCountsV_len (LL : List (List Int)) (n : Int) : (ClassCountsV LL n).length ≤ 7 := by
  unfold ClassCountsV
  split
  · rename_i h
    have := h.2
    rw [clsS_len]; omega
  · simp
def CntRows (LL : List (List Int)) (w : World) (B : Nat) (s : Sl) (m : Nat) : Prop := ∃ rs : List Sl, Own w B T_SSint s (rs.map Sl.v) ∧ rs.map (fun r => (r.n : Int)) = clsS LL m
theorem CntRows.n {LL w B s m} (h : CntRows LL w B s m) : s.n = m := by
  obtain ⟨rs, h1, h2⟩ := h
  have h3 := congrArg List.length h2
  rw [List.length_map, clsS_len] at h3
  have := h1.row.n
  simpa [h3] using this
theorem c_l12Class {w : World} {l : Sl} {LL : List (List Int)} (hl : RowSS w l LL) (hB : BasisOk LL) (n : Nat) (hn : n ≤ 6) :
    Calls PP F.spec_l12Class #[l.v, vI n] w fun e w' => ∃ s : Sl, e = .returned s.v ∧ CntRows LL w' w.heap.size s (n + 1) ∧ Below w.heap.size w w' := by
  have h0 := avoids_nil hB
  refine spec_l12Class.calls l n ?_
  rw [spec_l12Class.E_s]
  refine lit0 oneInt (B := w.heap.size) (Nat.le_refl _) ?_
  intro e0 w1 he0 hg1 _
  have hb1 := below_of_grow hg1
  refine lit1 oneSint (B := w.heap.size) hb1.size (One.sl e0) ?_
  intro lv w2 hlv hg2 _
  have hb2 := hb1.grown hg2 hb1.size (by simp)
  have hlv2 : OwnSS w2 w.heap.size lv [[]] := OwnSS.one_nil he0 hlv hg2
  refine lit1 oneSSint (B := w.heap.size) hb2.size (One.sl lv) ?_
  intro o w3 ho hg3 _
  have hb3 := hb2.grown hg3 hb2.size (by simp)
  have hlv3 : RowSS w3 lv (l12V LL 0) := (hlv2.grow (below_of_grow hg3)).row
  have hc0 : ∀ k, k ≤ 6 → (l12V LL k).length ≤ 46656 := fun k hk => by rw [l12V_len h0]; exact classV_len hk
  refine spec_l12Class.L4_rule _ _ _ _ _ _ _ (I := fun lv o i w' => 1 ≤ i ∧ i ≤ (n + 1 : Nat) ∧ Below w.heap.size w w' ∧ RowSS w' lv (l12V LL (i - 1).toNat) ∧ CntRows LL w' w.heap.size o i.toNat) (μ := fun _ _ i _ => ((n + 1 : Nat) - i).toNat)
    ⟨by omega, by omega, hb3, hlv3, [lv], ho, by
      have h5 := hlv3.n
      have h6 := l12V_len h0 0
      simp [clsS, cls, h5, h6]⟩ ?_
  rintro lv o i w' ⟨hi1, hi, hb, hlv, hout⟩
  rw [spec_l12Class.B4_s]
  refine bif_dec (fun h3 => ?_) (fun h3 => ?_)
  · obtain ⟨m, rfl⟩ : ∃ m : Nat, i = (m + 1 : Nat) := ⟨(i - 1).toNat, by omega⟩
    have em : (((m + 1 : Nat) : Int) - 1).toNat = m := by omega
    have em2 : (((m + 1 : Nat) : Int) + 1 - 1).toNat = m + 1 := by omega
    have em3 : (((m + 1 : Nat) : Int) + 1).toNat = m + 1 + 1 := by omega
    rw [em] at hlv
    rw [Int.toNat_natCast] at hout
    refine (c_l12Next (hl.grow hb) hB hlv m (by omega) (fun p hp => l12V_mem_len h0 hp) (fun p hp x hx => by
      have := mem_idn.1 (((mem_l12V h0).1 hp).1.mem_iff.1 hx); omega) (hc0 m (by omega))).mono ?_
    rintro e w4 ⟨x, rfl, hx, hb4⟩
    refine ⟨x, rfl, ?_⟩
    have hbw4 := hb.trans (hb4.mono hb.size)
    obtain ⟨rs, ho1, ho2⟩ := hout
    have ho4 := ho1.grow hb4
    refine append_one oneSSint ho4 hbw4.size (One.sl x) (by
      have := congrArg List.length ho2
      rw [List.length_map, clsS_len] at this
      rw [List.length_map]; omega) ?_
    intro o' w5 ho5 hg5 _
    obtain ⟨xs, hx⟩ := hx
    have hx5 := hx.keepsLt (keeps_grown hg5) (fun g hg => (ho1.lt g hg).2)
    refine ⟨x, o', ((m + 1 : Nat) : Int) + 1, by rw [w64_succ (by omega) (by omega)], ⟨by omega, by omega, hbw4.grown hg5 hbw4.size (fun g hg => (ho4.lt g hg).1), ?_, ?_⟩, by omega⟩
    · rw [em2]; exact hx5.row
    · refine ⟨rs ++ [x], by simpa using ho5, ?_⟩
      have hxn := hx5.n
      have h6 := l12V_len h0 (m + 1)
      rw [l12V] at h6
      rw [em3, clsS_succ, List.map_append, ho2, cls, ← h6]
      simp [hxn]
  · rw [spec_l12Class.A4_0_s]
    rw [show i.toNat = n + 1 by omega] at hout
    exact ⟨o, rfl, hout, hb⟩
theorem c_specClassCounts {w : World} {l : Sl} {LL : List (List Int)} (hl : RowSS w l LL) (hL : LL.length < 2^38) (ht : tot LL < 2^37) (n : Int) :
    Calls PP F.spec_ClassCounts #[l.v, vI n] w fun e w' => ∃ s : Sl, e = .returned s.v ∧ OwnI w' w.heap.size s (ClassCountsV LL n) ∧ Below w.heap.size w w' := by
  refine spec_ClassCounts.calls l n ?_
  rw [spec_ClassCounts.E_s]
  refine lit0 oneInt (B := w.heap.size) (Nat.le_refl _) ?_
  intro o w1 ho hg1 _
  have hb1 := below_of_grow hg1
  refine (c_specIsBasis (hl.grow hb1) hL ht).mono ?_
  rintro e w2 ⟨rfl, hb12⟩
  refine ⟨_, rfl, ?_⟩
  have hb2 := hb1.trans (hb12.mono hb1.size)
  have ho2 : OwnI w2 w.heap.size o [] := Own.grow ho hb12
  refine bif_intro (fun h => ?_) (fun h => ?_)
  · have h : ¬ BasisOk LL := by simpa [IsBasisV] using h
    exact ⟨o, rfl, by rw [ClassCountsV, if_neg (fun hh => h hh.1)]; exact ho2, hb2⟩
  have hB : BasisOk LL := by simpa [IsBasisV] using h
  refine Pure.pcall1 (s := .bool) (c_l1In n 0 6) ?_
  refine bif_intro (fun h => ?_) (fun h => ?_)
  · have h : ¬ (0 ≤ n ∧ n ≤ 6) := by simp at h; omega
    exact ⟨o, rfl, by rw [ClassCountsV, if_neg (fun hh => h hh.2)]; exact ho2, hb2⟩
  have hn : 0 ≤ n ∧ n ≤ 6 := by simpa using h
  have hV : ClassCountsV LL n = clsS LL (n.toNat + 1) := by rw [ClassCountsV, if_pos ⟨hB, hn⟩]
  rw [hV]
  obtain ⟨n, rfl⟩ : ∃ m : Nat, n = m := ⟨n.toNat, by omega⟩
  rw [Int.toNat_natCast]
  refine (c_l12Class (hl.grow hb2) hB n (by omega)).mono ?_
  rintro e w3 ⟨t, rfl, hto, hb23⟩
  refine ⟨t, rfl, ?_⟩
  have hb3 := hb2.trans (hb23.mono hb2.size)
  have htn := hto.n
  obtain ⟨rs, ht1, ht2⟩ := hto
  have hrl : rs.length = n + 1 := by
    have := congrArg List.length ht2
    rw [List.length_map, clsS_len] at this
    exact this
  refine spec_ClassCounts.L6_rule _ _ _ _ _ (I := fun o i w' => 0 ≤ i ∧ i ≤ (n + 1 : Nat) ∧ Below w.heap.size w w' ∧ Own w' w2.heap.size T_SSint t (rs.map Sl.v) ∧ OwnI w' w.heap.size o (clsS LL i.toNat)) (μ := fun _ i _ => ((n + 1 : Nat) - i).toNat)
    ⟨by omega, by omega, hb3, ht1, by have := Own.grow ho2 hb23; simpa [OwnI, clsS] using this⟩ ?_
  rintro o i w' ⟨hi0, hi, hb, htw, how⟩
  rw [spec_ClassCounts.B6_s, htn]
  refine bif_dec (fun h3 => ?_) (fun h3 => ?_)
  · have hlt : i.toNat < rs.length := by omega
    refine Row.get (sh := .sl) (r := rs[i.toNat]) htw.row hi0 (by rw [List.getElem?_map, List.getElem?_eq_getElem hlt]; rfl) ?_
    have hxn : (rs[i.toNat].n : Int) = cls LL i.toNat := by
      have h5 : (rs.map (fun r => (r.n : Int)))[i.toNat]? = (clsS LL (n + 1))[i.toNat]? := by rw [ht2]
      rw [List.getElem?_map, List.getElem?_eq_getElem hlt, clsS, List.getElem?_map, List.getElem?_range (by omega)] at h5
      simpa using h5
    simp only [hxn]
    refine append_int how hb.size (by rw [clsS_len]; omega) ?_
    intro o' w4 ho4 hg4 _
    refine ⟨o', i + 1, by rw [w64_succ hi0 (by omega)], ⟨by omega, by omega, hb.grown hg4 hb.size (fun g hg => (how.lt g hg).1), ?_, ?_⟩, by omega⟩
    · exact htw.kept hg4 fun g e1 e2 => (htw.apt how ne_SS_int) g e1 e2
    · rw [show (i + 1).toNat = i.toNat + 1 by omega, clsS_succ]
      exact ho4
  · rw [spec_ClassCounts.A6_0_s]
    rw [show i.toNat = n + 1 by omega] at how
    exact ⟨o, rfl, how, hb⟩
theorem Own.some {w B e s vs} (h : Own w B e s vs) (hne : vs ≠ []) : s.a.isNone = false := by
  have hn := h.n
  have hnc := h.nc
  have h0 : 0 < vs.length := List.length_pos_iff.2 hne
  rcases h.at_ with hc | ⟨g, cur, ha, _⟩
  · omega
  · rw [ha]; rfl
theorem c_implClassCounts {w : World} {l : Sl} {LL : List (List Int)} (hl : RowSS w l LL) (hL : LL.length < 2^38) (ht : tot LL < 2^37) (n : Int) :
    Calls PP F.impl_ClassCounts #[l.v, vI n] w fun e w' => ∃ s : Sl, e = .returned s.v ∧ OwnI w' w.heap.size s (ClassCountsV LL n) ∧ Below w.heap.size w w' ∧ (s.a.isNone = false ↔ CntOk LL n) := by
  refine impl_ClassCounts.calls l n ?_
  rw [impl_ClassCounts.E_s]
  refine (c_implIsBasis hl hL ht).mono ?_
  rintro e w1 ⟨rfl, hb1⟩
  refine ⟨_, rfl, ?_⟩
  have no : ∀ h : ¬ CntOk LL n, ∃ s : Sl, Ending.returned Sl.nil.v = .returned s.v ∧ OwnI w1 w.heap.size s (ClassCountsV LL n) ∧ Below w.heap.size w w1 ∧ (s.a.isNone = false ↔ CntOk LL n) := fun h =>
    ⟨Sl.nil, rfl, by rw [ClassCountsV, if_neg h]; exact Own.nil _ _ _, hb1, by simp [Sl.nil, h]⟩
  refine bif_intro (fun h => ?_) (fun h => ?_)
  · have h : ¬ BasisOk LL := by simpa [IsBasisV] using h
    exact no fun hh => h hh.1
  have hB : BasisOk LL := by simpa [IsBasisV] using h
  refine c_six ?_
  refine bif_intro (fun h => ?_) (fun h => ?_)
  · have h : ¬ (0 ≤ n ∧ n ≤ 6) := by simp at h; omega
    exact no fun hh => h hh.2
  have hn : 0 ≤ n ∧ n ≤ 6 := by simpa using h
  have hok : CntOk LL n := ⟨hB, hn⟩
  have hV : ClassCountsV LL n = clsS LL (n.toNat + 1) := by rw [ClassCountsV, if_pos hok]
  rw [hV]
  clear no
  refine lit0 oneInt (B := w.heap.size) hb1.size ?_
  intro o w2 ho hg2 _
  have hb2 := hb1.grown hg2 hb1.size (by simp)
  rw [w64_succ hn.1 (by omega)]
  refine impl_ClassCounts.L5_rule _ _ _ _ _ _ (I := fun o i w' => 0 ≤ i ∧ i ≤ n + 1 ∧ Below w.heap.size w w' ∧ OwnI w' w.heap.size o (clsS LL i.toNat)) (μ := fun _ i _ => (n + 1 - i).toNat)
    ⟨by omega, by omega, hb2, by simpa [OwnI, clsS] using ho⟩ ?_
  rintro o i w' ⟨hi0, hi, hb, how⟩
  rw [impl_ClassCounts.B5_s]
  refine bif_dec (fun h3 => ?_) (fun h3 => ?_)
  · obtain ⟨m, rfl⟩ : ∃ m : Nat, i = m := ⟨i.toNat, by omega⟩
    refine (c_class (hl.grow hb) hB m (by omega)).mono ?_
    rintro e w3 ⟨t, rfl, hto, hb3⟩
    refine ⟨t, rfl, ?_⟩
    have hb13 := hb.trans (hb3.mono hb.size)
    have hxn : (t.n : Int) = cls LL m := by rw [hto.row.n, cls]
    simp only [hxn]
    have how3 := Own.grow how hb3
    rw [Int.toNat_natCast] at how how3
    refine append_int how3 hb13.size (by rw [clsS_len]; omega) ?_
    intro o' w4 ho4 hg4 _
    refine ⟨o', (m : Int) + 1, by rw [w64_succ hi0 (by omega)], ⟨by omega, by omega, hb13.grown hg4 hb13.size (fun g hg => (how3.lt g hg).1), ?_⟩, by omega⟩
    rw [show ((m : Int) + 1).toNat = m + 1 by omega, clsS_succ]
    exact ho4
  · rw [impl_ClassCounts.A5_0_s]
    rw [show i.toNat = n.toNat + 1 by omega] at how
    refine ⟨o, rfl, how, hb, iff_of_true (Own.some how ?_) hok⟩
    intro h5
    have := congrArg List.length h5
    rw [List.length_map, clsS_len] at this
    simp at this
end Go.Proofs.Ytmhgjfahgemblaa
