/- The texts RuI, CodeGz, Gz, RuG in one (gmerge.py). -/
import Derived.Test.YteplokddaebbeaaGreatRuM6
/- RuleUpTo: the program's text. -/
namespace Go.Proofs.YteplokddaebbeaaGreat
open Go Go.RowKit
set_option maxRecDepth 100000

theorem nodup_heads {T : List EntI} (h : (T.map (·.1)).Nodup) : ((T.map rowE).map hd).Nodup := by
  rw [List.map_map]; exact h
/-- What a map tells of a list of rows. -/
def Tells (E : List (List Int)) (T : List EntI) : Prop := ∀ Z, Z ∈ T.map rowE ↔ Z ∈ E
theorem tells_len {LL : List (List Int)} {E : List (List Int)} {T : List EntI} {n : Nat} (hn : n ≤ 6) (hE : ∀ z ∈ E, z ∈ ents LL n) (hk : (T.map (·.1)).Nodup) (h : Tells E T) : T.length ≤ 7 := by
  -- seven heads at most
  have h1 : ∀ t ∈ T, 0 ≤ t.1 ∧ t.1 ≤ 6 := fun t ht => by
    have := ent_facts hn (hE _ ((h (rowE t)).1 (List.mem_map.2 ⟨t, ht, rfl⟩)))
    exact ⟨this.1, this.2.1⟩
  have h2 : T.map (·.1) ⊆ ((List.range 7).map fun (i : Nat) => (i : Int)) := fun x hx => by
    obtain ⟨t, ht, rfl⟩ := List.mem_map.1 hx
    have := h1 t ht
    exact List.mem_map.2 ⟨t.1.toNat, List.mem_range.2 (by omega), by omega⟩
  have := List.Nodup.length_le_of_subset hk h2
  simpa using this
theorem perm_told {E R : List (List Int)} {T : List EntI} (h : Tells E T) (hp : R.Perm (T.map rowE)) (hS : Str R) : Told E R := ⟨hS, fun Z => (hp.mem_iff).trans (h Z)⟩
theorem perm_idx {T : List EntI} {I : List Nat} (hn : I.Nodup) (hl : ∀ i ∈ I, i < T.length) (ha : ∀ i, i < T.length → i ∈ I) : (I.map fun i => rowE (T.getD i (0, Sl.nil, []))).Perm (T.map rowE) := by
  have h1 : I.Perm (List.range T.length) := (List.perm_ext_iff_of_nodup hn List.nodup_range).2 fun i => ⟨fun h => List.mem_range.2 (hl i h), fun h => ha i (List.mem_range.1 h)⟩
  have h2 := h1.map fun i => rowE (T.getD i (0, Sl.nil, []))
  refine h2.trans (List.Perm.of_eq ?_)
  apply List.ext_getElem
  · simp
  · intro i h3 h4
    simp at h3
    simp [List.getD_eq_getElem?_getD, List.getElem?_eq_getElem h3]
theorem idx_short {T : List EntI} {I : List Nat} (hn : I.Nodup) (hl : ∀ i ∈ I, i < T.length) : I.length ≤ T.length := by
  have := List.Nodup.length_le_of_subset hn (fun i hi => List.mem_range.2 (hl i hi) : I ⊆ List.range T.length)
  simpa using this
theorem c_implRuleUpTo {w : World} {l : Sl} {LL : List (List Int)} (hl : RowSS w l LL) (hL : LL.length < 2^38) (ht : tot LL < 2^37) (n : Int) :
    Calls PP F.impl_RuleUpTo #[l.v, vI n] w fun e w' => ∃ s : Sl, e = .returned (.tuple #[s.v, .bool (RuleUpToV1 LL n)]) ∧ OwnSS w' w.heap.size s (RuleUpToV LL n) ∧ Below w.heap.size w w' := by
  have nilr : ∀ (w1 : World), Below w.heap.size w w1 → RuleUpToV1 LL n = false → RuleUpToV LL n = [] →
      (fun e w' => ∃ s : Sl, e = Ending.returned (.tuple #[s.v, .bool (RuleUpToV1 LL n)]) ∧ OwnSS w' w.heap.size s (RuleUpToV LL n) ∧ Below w.heap.size w w') (.returned (.tuple #[Sl.v Sl.nil, .bool false])) w1 := by
    intro w1 hb1 h1 h2
    exact ⟨Sl.nil, by rw [h1], by rw [h2]; exact OwnSS.none _ _, hb1⟩
  refine impl_RuleUpTo.calls l n ?_
  rw [impl_RuleUpTo.E_s]
  refine (c_implIsBasis hl hL ht).mono ?_
  rintro e w1 ⟨rfl, hb1⟩
  refine ⟨_, rfl, ?_⟩
  refine bif_intro (fun h => ?_) (fun h => ?_)
  · have h : ¬ BasisOk LL := by simpa [IsBasisV] using h
    obtain ⟨h1, h2⟩ := told_no (LL := LL) (n := n) (fun hh => h hh.1)
    exact nilr w1 hb1 h1 h2
  have hBa : BasisOk LL := by simpa [IsBasisV] using h
  refine bif_dec (fun h => ?_) (fun hn0 => ?_)
  · obtain ⟨h1, h2⟩ := told_no (LL := LL) (n := n) (fun hh => by omega)
    exact nilr w1 hb1 h1 h2
  refine bif_dec (fun h => ?_) (fun hn5 => ?_)
  · obtain ⟨h1, h2⟩ := told_no (LL := LL) (n := n) (fun hh => by omega)
    exact nilr w1 hb1 h1 h2
  refine newI (B := w.heap.size) fun w2 hM2 hb12 => ?_
  have hr1 := hb1.size
  have hb2 := hb1.trans (hb12.mono hb1.size)
  rw [w64_id (by omega) (by omega)]
  refine impl_RuleUpTo.L5_rule _ _ _ _ _ _ (I := fun m w' => 0 ≤ m ∧ m ≤ n + 1 ∧ Below w.heap.size w w' ∧ ∃ T, MapI w' w.heap.size w1.heap.size T ∧ Tells (ents LL m.toNat) T) (μ := fun m _ => (n + 1 - m).toNat)
    ⟨by omega, by omega, hb2, [], hM2, fun Z => by simp [ents]⟩ ?_
  rintro m w3 ⟨hm0, hm, hb3, T, hM, hT⟩
  rw [impl_RuleUpTo.B5_s]
  refine bif_dec (fun h3 => ?_) (fun h3 => ?_)
  · obtain ⟨m, rfl⟩ : ∃ k : Nat, m = k := ⟨m.toNat, by omega⟩
    refine (c_class (hl.grow hb3) hBa m (by omega)).mono ?_
    rintro e w4 ⟨t, rfl, hts, hb34⟩
    refine ⟨t, rfl, ?_⟩
    obtain ⟨ts, hts⟩ := hts
    have htn := hts.n
    have hb4 := hb3.trans (hb34.mono hb3.size)
    have hcl : (classV LL m).length ≤ 46656 := classV_len (by omega)
    rw [Int.toNat_natCast] at hT
    have hrlt := hM.lt
    rw [htn]
    refine impl_RuleUpTo.L8_rule _ _ _ _ _ _ _ _ _ (I := fun k w' => 0 ≤ k ∧ k ≤ (classV LL m).length ∧ Below w.heap.size w w' ∧ OwnRows w' w3.heap.size t ts (classV LL m) ∧
        ∃ T, MapI w' w.heap.size w1.heap.size T ∧ Tells (ents LL m ++ ((classV LL m).take k.toNat).map (ent LL)) T) (μ := fun k _ => ((classV LL m).length - k).toNat)
      ⟨by omega, by omega, hb4, hts, T, hM.grow hb34, by simpa using hT⟩ ?_
    rintro k w5 ⟨hk0, hk, hb5, hts5, T, hM, hT⟩
    rw [impl_RuleUpTo.B8_s]
    refine bif_dec (fun h4 => ?_) (fun h4 => ?_)
    · have hlt : k.toNat < (classV LL m).length := by omega
      obtain ⟨P, hPe⟩ : ∃ P, P = (classV LL m)[k.toNat] := ⟨_, rfl⟩
      have hPm : P ∈ classV LL m := by rw [hPe]; exact List.getElem_mem hlt
      have hPl := class_pl hPm
      have hcl2 := childrenV_len LL P
      refine RowSS.get hts5.row hk0 (by omega) fun r hr => ?_
      rw [getD_SS hlt, ← hPe] at hr
      refine (c_active (hl.grow hb5) hBa hr (by omega)).mono ?_
      rintro e w6 ⟨u, rfl, hu, hb56⟩
      refine ⟨u, rfl, ?_⟩
      have hun : (u.n : Int) = siteN LL P := by have := hu.n; rw [List.length_map] at this; rw [siteN, this]
      simp only [hun]
      have hb6 := hb5.trans (hb56.mono hb5.size)
      refine (c_children (hl.grow hb6) hBa (hr.grow hb56) (by omega)).mono ?_
      rintro e w7 ⟨c, rfl, hc, hb67⟩
      refine ⟨c, rfl, ?_⟩
      have hb57 := hb56.trans (hb67.mono hb56.size)
      have hb7 := hb5.trans (hb57.mono hb5.size)
      refine (c_labels (hl.grow hb7) hBa hc.row (fun q hq => by obtain ⟨i, hi, rfl, _⟩ := childrenV_mem hq; rw [childW_length hi]; omega) (by omega)).mono ?_
      rintro e w8 ⟨x, rfl, hx, hb78⟩
      refine ⟨x, rfl, ?_⟩
      have hb58 := hb57.trans (hb78.mono hb57.size)
      have hb8 := hb5.trans (hb58.mono hb5.size)
      have hM8 := hM.grow hb58
      have hts8 := hts5.grow hb58
      have hx8 : OwnI w8 w.heap.size x (labsV LL (childrenV LL P)) := hx.mono hb7.size
      have hmemE : ∀ Y ∈ T.map rowE, Y ∈ ents LL (n.toNat + 1) := fun Y hY => by
        rcases List.mem_append.1 ((hT Y).1 hY) with h | h
        · obtain ⟨m', p, hm', hp, rfl⟩ := ents_mem h
          exact ents_mem_of (by omega) hp
        · obtain ⟨p, hp, rfl⟩ := List.mem_map.1 h
          exact ents_mem_of (by omega) (List.mem_of_mem_take hp)
      -- the store
      have put : ∀ (w9 : World), Drew w8 w9 → (∀ t ∈ T, t.1 = siteN LL P → t.2.2 = labsV LL (childrenV LL P)) →
          sem0 PP (Instr.mapUpdate T_Mint_Sint (.map (some w1.heap.size)) (vI (siteN LL P)) (Sl.v x)) w9 fun w10 => (fun e2 w' => ∃ k_n, e2 = impl_RuleUpTo.emb8 l (some w1.heap.size) (n + 1) m t (classV LL m).length k_n ∧ (0 ≤ k_n ∧ k_n ≤ (classV LL m).length ∧ Below w.heap.size w w' ∧ OwnRows w' w3.heap.size t ts (classV LL m) ∧ ∃ T, MapI w' w.heap.size w1.heap.size T ∧ Tells (ents LL m ++ ((classV LL m).take k_n.toNat).map (ent LL)) T) ∧ ((classV LL m).length - k_n).toNat < ((classV LL m).length - k).toNat) (impl_RuleUpTo.emb8 l (some w1.heap.size) (n + 1) m t (classV LL m).length (w64 (k + 1))) w10 := by
        intro w9 hd9 hsame
        refine putI (hM8.heap hd9.heap') (siteN LL P) (Own.heap hx8 hd9.heap') hsame fun w10 T' hM10 hg10 hz10 hT' _ => ?_
        rw [w64_succ hk0 (by omega)]
        have hb9 := hb8.trans (hd9.below _)
        refine ⟨k + 1, rfl, ⟨by omega, by omega, hb9.trans ((keeps_grown hg10).below (fun g hg => by cases hg; exact hr1) hb9.size), (hts8.heap hd9.heap').keepsF (keeps_grown hg10) (fun g h1 h2 => by cases h2; have := (hts8.footLt h1).1; omega), T', hM10, fun Z => ?_⟩, by omega⟩
        rw [show (k + 1).toNat = k.toNat + 1 by omega, List.take_succ_eq_append_getElem hlt, ← hPe, hT', hT]
        simp only [List.map_append, List.mem_append, List.map_cons, List.map_nil, List.mem_singleton]
        rw [or_assoc]; rfl
      refine lookI hM8 (siteN LL P) (fun t' ht' hta => ?_) (fun hno => ?_)
      · refine bif_t rfl ?_
        have hlab : t'.2.2.length < 2^39 := by
          have := ent_facts (n := n.toNat + 1) (by omega) (hmemE (rowE t') (List.mem_map.2 ⟨t', ht', rfl⟩))
          have h9 := this.2.2.1
          simp [rowE] at h9; omega
        refine Quiet.call1 (s := .bool) (c_Equal (hM8.own t' ht').row hx8.row hlab) ?_
        intro w9 hd9
        by_cases heq : t'.2.2 = labsV LL (childrenV LL P)
        · refine bif_f (by simp [heq]) ?_
          have hsame : ∀ t2 ∈ T, t2.1 = siteN LL P → t2.2.2 = labsV LL (childrenV LL P) := fun t2 ht2 h2 => ?_
          · exact put w9 hd9 hsame
          have : t2 = t' := by
            obtain ⟨i, hi, rfl⟩ := List.getElem_of_mem ht2
            obtain ⟨j, hj, rfl⟩ := List.getElem_of_mem ht'
            have hp := List.pairwise_iff_getElem.1 hM8.keys
            rcases Nat.lt_trichotomy i j with h7 | h7 | h7
            · exact absurd (by rw [List.getElem_map, List.getElem_map, h2, hta]) (hp i j (by simpa using hi) (by simpa using hj) h7)
            · subst h7; rfl
            · exact absurd (by rw [List.getElem_map, List.getElem_map, h2, hta]) (hp j i (by simpa using hj) (by simpa using hi) h7)
          rw [this]; exact heq
        · refine bif_t (by simp [heq]) ?_
          have hno := not_told (hmemE (rowE t') (List.mem_map.2 ⟨t', ht', rfl⟩)) (ents_mem_of (LL := LL) (n := n.toNat + 1) (m := m) (p := P) (by omega) hPm) (by rw [hd_ent]; exact hta) (fun e => heq (by
            have : rowE t' = ent LL P := e
            simp [rowE, ent] at this; exact this.2))
          obtain ⟨h1, h2⟩ := told_no (LL := LL) (n := n) (fun hh => hno hh.2.2.2)
          rw [impl_RuleUpTo.R8_s, impl_RuleUpTo.R5_s]
          exact nilr w9 (hb8.trans (hd9.below _)) h1 h2
      · refine bif_f rfl ?_
        exact put w8 (Drew.refl _) (fun t' ht' hta => absurd hta (hno t' ht'))
    · rw [impl_RuleUpTo.A8_2_s]
      have e : k.toNat = (classV LL m).length := by omega
      rw [e, List.take_length, ← ents_succ] at hT
      refine ⟨m + 1, by rw [w64_succ hm0 (by omega)], ⟨by omega, by omega, hb5, T, hM, ?_⟩, by omega⟩
      rw [show ((m : Int) + 1).toNat = m + 1 by omega]; exact hT
  · rw [impl_RuleUpTo.A5_0_s]
    have e : m.toNat = n.toNat + 1 := by omega
    rw [e] at hT
    have hTl := tells_len (LL := LL) (n := n.toNat + 1) (by omega) (fun z hz => hz) hM.keys hT
    have hTf : ∀ t ∈ T, (rowE t).length ≤ 8 := fun t' ht' => (ent_facts (n := n.toNat + 1) (by omega) ((hT _).1 (List.mem_map.2 ⟨t', ht', rfl⟩))).2.2.1
    refine lit0 oneSint (B := w3.heap.size) (Nat.le_refl _) ?_
    intro o w4 ho hg4 _
    have hb34 := below_of_grow hg4
    refine range_mapI (hM.grow hb34) fun w5 hR5 hb45 => ?_
    have hb35 := hb34.trans (hb45.mono hb34.size)
    have hitge : w3.heap.size ≤ w4.heap.size := hb34.size
    have cellsO : ∀ {w' : World} {out : Sl} {rs : List Sl} {R : List (List Int)} {B : Nat}, OwnRows w' B out rs R → ∀ g, foot out rs g → ∃ cur e, w'.heap[g]? = some (.cells cur e (0, 0)) := fun hO g hf => by
      rcases hf with hf | ⟨r, hr, hf⟩
      · obtain ⟨cur, h⟩ := hO.out.heapAt hf; exact ⟨cur, _, h⟩
      · obtain ⟨L, _, ho⟩ := hO.own hr
        obtain ⟨cur, h⟩ := ho.heapAt hf; exact ⟨cur, _, h⟩
    refine impl_RuleUpTo.L20_rule _ _ _ _ (I := fun out w' => ∃ (I : List Nat) (rs : List Sl), Ran w' w.heap.size w4.heap.size w1.heap.size T I ∧ OwnRows w' w3.heap.size out rs (I.map fun i => rowE (T.getD i (0, Sl.nil, []))) ∧ Below w3.heap.size w3 w') (μ := fun out _ => T.length - out.n)
      ⟨[], [], hR5, (OwnRows.nil ho).grow hb45, hb35⟩ ?_
    rintro out w6 ⟨I, rs, hR, hO, hb6⟩
    have hon := hO.n
    rw [List.length_map] at hon
    have hIl := idx_short hR.nd hR.lt
    have hmemT : ∀ i ∈ I, T.getD i (0, Sl.nil, []) ∈ T := fun i hi => by
      have := hR.lt i hi
      rw [List.getD_eq_getElem?_getD, List.getElem?_eq_getElem this]; exact List.getElem_mem this
    rw [impl_RuleUpTo.B20_s]
    refine next_mapI hR (fun hall => ?_) (fun i t' w7 hti hni hR7 hg7 hz7 hent => ?_)
    · rw [impl_RuleUpTo.A20_4_s]
      have hpi := perm_idx hR.nd hR.lt hall
      refine c_SortF hO (by rw [List.length_map]; omega) (fun L hLm => ?_) ((hpi.map hd).nodup_iff.2 (nodup_heads hR.map.keys)) fun w7 rs' R' hO' hS hp hb67 => ?_
      · obtain ⟨i, hi, rfl⟩ := List.mem_map.1 hLm
        have := hTf _ (hmemT i hi)
        exact ⟨by omega, by simp [rowE]⟩
      · obtain ⟨h1, h2⟩ := told_V hBa (by omega) (by omega) (perm_told hT (hp.trans hpi) hS)
        exact ⟨out, by rw [h1], ⟨rs', by rw [h2]; exact hO'.mono hb3.size⟩, hb3.trans ((hb6.trans hb67).mono hb3.size)⟩
    · refine ⟨_, _, _, hent, ?_⟩
      have hrit : ∀ g, foot out rs g → g ≠ w4.heap.size := fun g hf e => by
        obtain ⟨cur, ty, hc⟩ := cellsO hO g hf
        obtain ⟨es, clock, since, seen, c0, _, _, _, hit, _⟩ := hR.it
        rw [e, hit] at hc; cases hc
      have hO7 := hO.keepsF (keeps_grown hg7) (fun g h1 h2 => hrit g h1 (by cases h2; rfl))
      have hb7 : Below w3.heap.size w3 w7 := hb6.trans ((keeps_grown hg7).below (fun g e => by cases e; exact hitge) hb6.size)
      have hmt : t' ∈ T := List.mem_of_getElem? hti
      refine make_ent hb7.size fun x w8 hx hb78 hxn => ?_
      have htl := hTf t' hmt
      have htl2 : t'.2.2.length ≤ 8 := by simp [rowE] at htl; omega
      have hb8 := hb7.trans (hb78.mono hb7.size)
      refine append_row oneInt hx hb8.size ((hR7.map.own t' hmt).row.grow hb78) vI_one' (by rw [List.length_map, List.length_map]; simp; omega) ?_
      intro x2 w9 hx2 hg9 hn9 _
      rw [← List.map_append] at hx2
      have hx2 : OwnI w9 w3.heap.size x2 (rowE t') := hx2
      have hb79 : Below w7.heap.size w7 w9 := hb78.grown hg9 hb78.size (fun g hg => hxn g hg)
      have hb9 := hb7.trans (hb79.mono hb7.size)
      have hO9 := hO7.grow hb79
      have hx2n : ∀ g, x2.blk = some g → w7.heap.size ≤ g := fun g hg => by
        rcases hn9 g hg with h | h
        · exact hxn g h
        · have := hb78.size; omega
      refine append_sl hO9 hb9.size hx2 (fun t ht => Apt.of_lt (fun g hg => (hO7.lt ht hg).2) hx2n) (by rw [List.length_map]; omega) ?_
      intro out' w10 hO10 hg10 hn10
      have hR9 : Ran w9 w.heap.size w4.heap.size w1.heap.size T (I ++ [i]) := hR7.keeps (S := fun _ => False) ((keeps_grown (grow_of_below hb79)).mono fun _ e => (by cases e)) id id fun _ _ _ _ => id
      have hne : ∀ g, out.blk = some g → g ≠ w4.heap.size ∧ g ≠ w1.heap.size := fun g hg => ⟨hrit g (.inl hg), fun e => by
        obtain ⟨cur, ty, hc⟩ := cellsO hO g (.inl hg)
        obtain ⟨es, clock, hm, _⟩ := hR.map.obj
        rw [e, hm] at hc; cases hc⟩
      have hgd : T.getD i (0, Sl.nil, []) = t' := by rw [List.getD_eq_getElem?_getD, hti]; rfl
      have hO10 : OwnRows w10 w3.heap.size out' (rs ++ [x2]) ((I ++ [i]).map fun i => rowE (T.getD i (0, Sl.nil, []))) := by
        rw [List.map_append, List.map_cons, List.map_nil, hgd]; exact hO10
      have hI2 := idx_short hR7.nd hR7.lt
      refine ⟨out', rfl, ⟨I ++ [i], rs ++ [x2], hR9.keeps (keeps_grown hg10) (fun e => (hne _ e).1 rfl) (fun e => (hne _ e).2 rfl) (fun t2 ht2 g h1 h2 => (hO9.out.apt (hR9.map.own t2 ht2) (by decide)) g h2 h1), hO10, hb9.trans ((keeps_grown hg10).below (fun g hg => (hO9.out.lt g hg).1) hb9.size)⟩, ?_⟩
      have hon' := hO10.n
      rw [List.length_map, List.length_append] at hon'
      rw [List.length_append] at hI2
      simp at hon' hI2
      omega
end Go.Proofs.YteplokddaebbeaaGreat

/- What each function does, step by step, written by a program (Gen.lean); each equation is checked by the kernel. -/
namespace Go.Proofs.YteplokddaebbeaaGreat
open Go
set_option linter.unusedVariables false
set_option maxRecDepth 100000
namespace laws_big
@[reducible] def cfg : Cfg := ⟨6, [], [], [], [2], [], [13, 12, 21, 89, 36, 108, 74, 75, 104, 78, 125], [73, 117, 103, 46, 4, 30, 40]⟩
def E (pr : Prims) (code_0 : Sl) (w : World) (R : Ending → World → Prop) : Prop :=
  wpC pr PP cfg (DD pr) (codeOf Tryz.f4) (retQ Tryz.f4.results.toList R) (argE 0 [Sl.v code_0]) w
theorem E_eq (pr : Prims) (code_0 : Sl) (w : World) (R : Ending → World → Prop) : E pr code_0 w R = (
  R (.returned (.bool (decide ((code_0.n : Int) > 1048576)))) w) := by kernel_rfl
theorem E_s (code_0 : Sl) (w : World) (R : Ending → World → Prop) : E std code_0 w R = (
  R (.returned (.bool (decide ((code_0.n : Int) > 1048576)))) w) := E_eq std code_0 w R
theorem drawsOk : drawsOk PP cfg okD (codeOf Tryz.f4) = true := by kernel_rfl
theorem calls (code_0 : Sl) {w : World} {R : Ending → World → Prop} (h : E std code_0 w R) : Calls PP F.laws_big #[Sl.v code_0] w R :=
  calls_of noCount mixed drawOk Tryz.func4 rfl (c := cfg) (args := [Sl.v code_0]) rfl (Nat.le_of_ble_eq_true (by kernel_rfl)) drawsOk h
end laws_big

namespace laws_sameInts
@[reducible] def cfg : Cfg := ⟨26, [(4, [0, 1, 5])], [(1, [0, 1, 5]), (0, [])], [], [4], [6], [13, 12, 21, 89, 36, 108, 74, 75, 104, 78, 125], [73, 117, 103, 46, 4, 30, 40]⟩
def q0 (pr : Prims) (R : Ending → World → Prop) : Exit → Env → World → Prop := fun ex e w => normQ ex (fun e w => contE pr cfg (sub (codeOf Tryz.f13) [1, 1, 1]) (fun e w => wpC pr PP cfg (DD pr) (sub (codeOf Tryz.f13) [1, 1, 1]) (retQ Tryz.f13.results.toList R) e w) e w) (retQ Tryz.f13.results.toList R) e w
def q1 (pr : Prims) (R : Ending → World → Prop) : Exit → Env → World → Prop := fun ex e w => blockQ ex 0 (q0 pr R) e w
def emb4 (a_0 : Sl) (b_1 : Sl) (i_5 : Int) : Env := [(0, Sl.v a_0), (1, Sl.v b_1), (5, vI i_5)]
def x0 : Env := []
def S4 (pr : Prims) (Q : Exit → Env → World → Prop) : (Env → World → Prop) → Env → World → Prop := fun k e w => wpC pr PP cfg (DD pr) (sub (codeOf Tryz.f13) [1, 1, 0, 1, 0, 0]) (fun ex e w => normQ ex (fun e' w' => k (Env.restr e' (lookN cfg.loops (keyOf (sub (codeOf Tryz.f13) [1, 1, 0, 1, 0, 0])))) w') Q e w) e w
def B4 (pr : Prims) (a_0 : Sl) (b_1 : Sl) (i_5 : Int) (w : World) (k : Env → World → Prop) (Q : Exit → Env → World → Prop) : Prop :=
  S4 pr Q k (emb4 a_0 b_1 i_5) w
def L4 (pr : Prims) (a_0 : Sl) (b_1 : Sl) (i_5 : Int) (w : World) (Q : Exit → Env → World → Prop) : Prop :=
  pr.loop (S4 pr Q) (emb4 a_0 b_1 i_5) w
def E (pr : Prims) (a_0 : Sl) (b_1 : Sl) (w : World) (R : Ending → World → Prop) : Prop :=
  wpC pr PP cfg (DD pr) (codeOf Tryz.f13) (retQ Tryz.f13.results.toList R) (argE 0 [Sl.v a_0, Sl.v b_1]) w
theorem B4_eq (pr : Prims) (a_0 : Sl) (b_1 : Sl) (i_5 : Int) (w : World) (k : Env → World → Prop) (Q : Exit → Env → World → Prop) : B4 pr a_0 b_1 i_5 w k Q = (
  bif decide (i_5 < (a_0.n : Int)) then (
  pr.idxK 1 a_0 i_5 fun (a2 : Addr) =>
  pr.load1 (.int .i64) a2 w fun (ξ3 : Int) =>
  pr.idxK 1 b_1 i_5 fun (a4 : Addr) =>
  pr.load1 (.int .i64) a4 w fun (ξ5 : Int) =>
  pr.drewAll w fun ω6 =>
  bif ξ3 != ξ5 then (
  Q .ret [(4, .bool false)] ω6)
  else (
  k (emb4 a_0 b_1 (w64 (i_5 + 1))) ω6))
  else (
  Q (.exit 0) (x0) w)) := by kernel_rfl
theorem B4_s (a_0 : Sl) (b_1 : Sl) (i_5 : Int) (w : World) (k : Env → World → Prop) (Q : Exit → Env → World → Prop) : B4 std a_0 b_1 i_5 w k Q = (
  bif decide (i_5 < (a_0.n : Int)) then (
  idxK 1 a_0 i_5 fun (a2 : Addr) =>
  load1 (.int .i64) a2 w fun (ξ3 : Int) =>
  idxK 1 b_1 i_5 fun (a4 : Addr) =>
  load1 (.int .i64) a4 w fun (ξ5 : Int) =>
  drewAll w fun ω6 =>
  bif ξ3 != ξ5 then (
  Q .ret [(4, .bool false)] ω6)
  else (
  k (emb4 a_0 b_1 (w64 (i_5 + 1))) ω6))
  else (
  Q (.exit 0) (x0) w)) := B4_eq std a_0 b_1 i_5 w k Q
theorem L4_rule (a_0 : Sl) (b_1 : Sl) (i_5 : Int) (w : World) (Q : Exit → Env → World → Prop) (I : Int → World → Prop) (μ : Int → World → Nat) (h0 : I i_5 w)
    (h : ∀ (i_5 : Int) (w' : World), I i_5 w' → B4 std a_0 b_1 i_5 w' (fun e2 w2 => ∃ i_5_n, e2 = emb4 a_0 b_1 i_5_n ∧ I i_5_n w2 ∧ μ i_5_n w2 < μ i_5 w') Q) :
    L4 std a_0 b_1 i_5 w Q := by
  unfold L4
  refine LoopE.intro (σ := Int) (step := S4 std Q) (fun s => emb4 a_0 b_1 s) (fun s w => I s w) (fun s w => μ s w) i_5 rfl h0 ?_
  intro s w' hI
  have h1 := h s w' hI
  unfold B4 at h1
  exact h1
theorem A4_0_eq (pr : Prims) (w : World) (R : Ending → World → Prop) : (q1 pr R) (.exit 0) (x0) w = (
  R (.returned (.bool true)) w) := by kernel_rfl
theorem A4_0_s (w : World) (R : Ending → World → Prop) : (q1 std R) (.exit 0) (x0) w = (
  R (.returned (.bool true)) w) := A4_0_eq std w R
theorem R4_eq (pr : Prims) (v4 : Value) (w : World) (R : Ending → World → Prop) : (q1 pr R) .ret [(4, v4)] w = (
  R (.returned (v4)) w) := by kernel_rfl
theorem R4_s (v4 : Value) (w : World) (R : Ending → World → Prop) : (q1 std R) .ret [(4, v4)] w = (
  R (.returned (v4)) w) := R4_eq std v4 w R
theorem E_eq (pr : Prims) (a_0 : Sl) (b_1 : Sl) (w : World) (R : Ending → World → Prop) : E pr a_0 b_1 w R = (
  bif (a_0.n : Int) != (b_1.n : Int) then (
  R (.returned (.bool false)) w)
  else (
  L4 pr a_0 b_1 0 w (q1 pr R))) := by kernel_rfl
theorem E_s (a_0 : Sl) (b_1 : Sl) (w : World) (R : Ending → World → Prop) : E std a_0 b_1 w R = (
  bif (a_0.n : Int) != (b_1.n : Int) then (
  R (.returned (.bool false)) w)
  else (
  L4 std a_0 b_1 0 w (q1 std R))) := E_eq std a_0 b_1 w R
theorem drawsOk : drawsOk PP cfg okD (codeOf Tryz.f13) = true := by kernel_rfl
theorem calls (a_0 : Sl) (b_1 : Sl) {w : World} {R : Ending → World → Prop} (h : E std a_0 b_1 w R) : Calls PP F.laws_sameInts #[Sl.v a_0, Sl.v b_1] w R :=
  calls_of noCount mixed drawOk Tryz.func13 rfl (c := cfg) (args := [Sl.v a_0, Sl.v b_1]) rfl (Nat.le_of_ble_eq_true (by kernel_rfl)) drawsOk h
end laws_sameInts

namespace laws_sameLists
@[reducible] def cfg : Cfg := ⟨27, [(4, [0, 1, 5])], [(1, [0, 1, 5]), (0, [])], [], [4], [6], [13, 12, 21, 89, 36, 108, 74, 75, 104, 78, 125], [73, 117, 103, 46, 4, 30, 40]⟩
def q0 (pr : Prims) (R : Ending → World → Prop) : Exit → Env → World → Prop := fun ex e w => normQ ex (fun e w => contE pr cfg (sub (codeOf Tryz.f12) [1, 1, 1]) (fun e w => wpC pr PP cfg (DD pr) (sub (codeOf Tryz.f12) [1, 1, 1]) (retQ Tryz.f12.results.toList R) e w) e w) (retQ Tryz.f12.results.toList R) e w
def q1 (pr : Prims) (R : Ending → World → Prop) : Exit → Env → World → Prop := fun ex e w => blockQ ex 0 (q0 pr R) e w
def emb4 (a_0 : Sl) (b_1 : Sl) (i_5 : Int) : Env := [(0, Sl.v a_0), (1, Sl.v b_1), (5, vI i_5)]
def x0 : Env := []
def S4 (pr : Prims) (Q : Exit → Env → World → Prop) : (Env → World → Prop) → Env → World → Prop := fun k e w => wpC pr PP cfg (DD pr) (sub (codeOf Tryz.f12) [1, 1, 0, 1, 0, 0]) (fun ex e w => normQ ex (fun e' w' => k (Env.restr e' (lookN cfg.loops (keyOf (sub (codeOf Tryz.f12) [1, 1, 0, 1, 0, 0])))) w') Q e w) e w
def B4 (pr : Prims) (a_0 : Sl) (b_1 : Sl) (i_5 : Int) (w : World) (k : Env → World → Prop) (Q : Exit → Env → World → Prop) : Prop :=
  S4 pr Q k (emb4 a_0 b_1 i_5) w
def L4 (pr : Prims) (a_0 : Sl) (b_1 : Sl) (i_5 : Int) (w : World) (Q : Exit → Env → World → Prop) : Prop :=
  pr.loop (S4 pr Q) (emb4 a_0 b_1 i_5) w
def E (pr : Prims) (a_0 : Sl) (b_1 : Sl) (w : World) (R : Ending → World → Prop) : Prop :=
  wpC pr PP cfg (DD pr) (codeOf Tryz.f12) (retQ Tryz.f12.results.toList R) (argE 0 [Sl.v a_0, Sl.v b_1]) w
theorem B4_eq (pr : Prims) (a_0 : Sl) (b_1 : Sl) (i_5 : Int) (w : World) (k : Env → World → Prop) (Q : Exit → Env → World → Prop) : B4 pr a_0 b_1 i_5 w k Q = (
  bif decide (i_5 < (a_0.n : Int)) then (
  pr.idxK 1 a_0 i_5 fun (a2 : Addr) =>
  pr.load1 .sl a2 w fun (ξ3 : Sl) =>
  pr.idxK 1 b_1 i_5 fun (a4 : Addr) =>
  pr.load1 .sl a4 w fun (ξ5 : Sl) =>
  pr.qcall1 .bool PP F.laws_sameInts #[Sl.v ξ3, Sl.v ξ5] w fun (ρ6 : Bool) =>
  pr.drewAll w fun ω7 =>
  bif !ρ6 then (
  Q .ret [(4, .bool false)] ω7)
  else (
  k (emb4 a_0 b_1 (w64 (i_5 + 1))) ω7))
  else (
  Q (.exit 0) (x0) w)) := by kernel_rfl
theorem B4_s (a_0 : Sl) (b_1 : Sl) (i_5 : Int) (w : World) (k : Env → World → Prop) (Q : Exit → Env → World → Prop) : B4 std a_0 b_1 i_5 w k Q = (
  bif decide (i_5 < (a_0.n : Int)) then (
  idxK 1 a_0 i_5 fun (a2 : Addr) =>
  load1 .sl a2 w fun (ξ3 : Sl) =>
  idxK 1 b_1 i_5 fun (a4 : Addr) =>
  load1 .sl a4 w fun (ξ5 : Sl) =>
  qcall1 .bool PP F.laws_sameInts #[Sl.v ξ3, Sl.v ξ5] w fun (ρ6 : Bool) =>
  drewAll w fun ω7 =>
  bif !ρ6 then (
  Q .ret [(4, .bool false)] ω7)
  else (
  k (emb4 a_0 b_1 (w64 (i_5 + 1))) ω7))
  else (
  Q (.exit 0) (x0) w)) := B4_eq std a_0 b_1 i_5 w k Q
theorem L4_rule (a_0 : Sl) (b_1 : Sl) (i_5 : Int) (w : World) (Q : Exit → Env → World → Prop) (I : Int → World → Prop) (μ : Int → World → Nat) (h0 : I i_5 w)
    (h : ∀ (i_5 : Int) (w' : World), I i_5 w' → B4 std a_0 b_1 i_5 w' (fun e2 w2 => ∃ i_5_n, e2 = emb4 a_0 b_1 i_5_n ∧ I i_5_n w2 ∧ μ i_5_n w2 < μ i_5 w') Q) :
    L4 std a_0 b_1 i_5 w Q := by
  unfold L4
  refine LoopE.intro (σ := Int) (step := S4 std Q) (fun s => emb4 a_0 b_1 s) (fun s w => I s w) (fun s w => μ s w) i_5 rfl h0 ?_
  intro s w' hI
  have h1 := h s w' hI
  unfold B4 at h1
  exact h1
theorem A4_0_eq (pr : Prims) (w : World) (R : Ending → World → Prop) : (q1 pr R) (.exit 0) (x0) w = (
  R (.returned (.bool true)) w) := by kernel_rfl
theorem A4_0_s (w : World) (R : Ending → World → Prop) : (q1 std R) (.exit 0) (x0) w = (
  R (.returned (.bool true)) w) := A4_0_eq std w R
theorem R4_eq (pr : Prims) (v4 : Value) (w : World) (R : Ending → World → Prop) : (q1 pr R) .ret [(4, v4)] w = (
  R (.returned (v4)) w) := by kernel_rfl
theorem R4_s (v4 : Value) (w : World) (R : Ending → World → Prop) : (q1 std R) .ret [(4, v4)] w = (
  R (.returned (v4)) w) := R4_eq std v4 w R
theorem E_eq (pr : Prims) (a_0 : Sl) (b_1 : Sl) (w : World) (R : Ending → World → Prop) : E pr a_0 b_1 w R = (
  bif (a_0.n : Int) != (b_1.n : Int) then (
  R (.returned (.bool false)) w)
  else (
  L4 pr a_0 b_1 0 w (q1 pr R))) := by kernel_rfl
theorem E_s (a_0 : Sl) (b_1 : Sl) (w : World) (R : Ending → World → Prop) : E std a_0 b_1 w R = (
  bif (a_0.n : Int) != (b_1.n : Int) then (
  R (.returned (.bool false)) w)
  else (
  L4 std a_0 b_1 0 w (q1 std R))) := E_eq std a_0 b_1 w R
theorem drawsOk : drawsOk PP cfg okD (codeOf Tryz.f12) = true := by kernel_rfl
theorem calls (a_0 : Sl) (b_1 : Sl) {w : World} {R : Ending → World → Prop} (h : E std a_0 b_1 w R) : Calls PP F.laws_sameLists #[Sl.v a_0, Sl.v b_1] w R :=
  calls_of noCount mixed drawOk Tryz.func12 rfl (c := cfg) (args := [Sl.v a_0, Sl.v b_1]) rfl (Nat.le_of_ble_eq_true (by kernel_rfl)) drawsOk h
end laws_sameLists

namespace laws_total
@[reducible] def cfg : Cfg := ⟨18, [(3, [0, 3, 4])], [(1, [0, 3, 4]), (0, [3])], [], [2], [], [13, 12, 21, 89, 36, 108, 74, 75, 104, 78, 125], [73, 117, 103, 46, 4, 30, 40]⟩
def q0 (pr : Prims) (R : Ending → World → Prop) : Exit → Env → World → Prop := fun ex e w => normQ ex (fun e w => contE pr cfg (sub (codeOf Tryz.f21) [1, 1, 1]) (fun e w => wpC pr PP cfg (DD pr) (sub (codeOf Tryz.f21) [1, 1, 1]) (retQ Tryz.f21.results.toList R) e w) e w) (retQ Tryz.f21.results.toList R) e w
def q1 (pr : Prims) (R : Ending → World → Prop) : Exit → Env → World → Prop := fun ex e w => blockQ ex 0 (q0 pr R) e w
def emb3 (list_0 : Sl) (sum_3 : Int) (i_4 : Int) : Env := [(0, Sl.v list_0), (3, vI sum_3), (4, vI i_4)]
def x0 (sum_3 : Int) : Env := [(3, vI sum_3)]
def S3 (pr : Prims) (Q : Exit → Env → World → Prop) : (Env → World → Prop) → Env → World → Prop := fun k e w => wpC pr PP cfg (DD pr) (sub (codeOf Tryz.f21) [1, 1, 0, 1, 0, 0]) (fun ex e w => normQ ex (fun e' w' => k (Env.restr e' (lookN cfg.loops (keyOf (sub (codeOf Tryz.f21) [1, 1, 0, 1, 0, 0])))) w') Q e w) e w
def B3 (pr : Prims) (list_0 : Sl) (sum_3 : Int) (i_4 : Int) (w : World) (k : Env → World → Prop) (Q : Exit → Env → World → Prop) : Prop :=
  S3 pr Q k (emb3 list_0 sum_3 i_4) w
def L3 (pr : Prims) (list_0 : Sl) (sum_3 : Int) (i_4 : Int) (w : World) (Q : Exit → Env → World → Prop) : Prop :=
  pr.loop (S3 pr Q) (emb3 list_0 sum_3 i_4) w
def E (pr : Prims) (list_0 : Sl) (w : World) (R : Ending → World → Prop) : Prop :=
  wpC pr PP cfg (DD pr) (codeOf Tryz.f21) (retQ Tryz.f21.results.toList R) (argE 0 [Sl.v list_0]) w
theorem B3_eq (pr : Prims) (list_0 : Sl) (sum_3 : Int) (i_4 : Int) (w : World) (k : Env → World → Prop) (Q : Exit → Env → World → Prop) : B3 pr list_0 sum_3 i_4 w k Q = (
  bif decide (i_4 < (list_0.n : Int)) then (
  pr.idxK 1 list_0 i_4 fun (a2 : Addr) =>
  pr.load1 (.int .i64) a2 w fun (ξ3 : Int) =>
  k (emb3 list_0 (w64 (sum_3 + ξ3)) (w64 (i_4 + 1))) w)
  else (
  Q (.exit 0) (x0 sum_3) w)) := by kernel_rfl
theorem B3_s (list_0 : Sl) (sum_3 : Int) (i_4 : Int) (w : World) (k : Env → World → Prop) (Q : Exit → Env → World → Prop) : B3 std list_0 sum_3 i_4 w k Q = (
  bif decide (i_4 < (list_0.n : Int)) then (
  idxK 1 list_0 i_4 fun (a2 : Addr) =>
  load1 (.int .i64) a2 w fun (ξ3 : Int) =>
  k (emb3 list_0 (w64 (sum_3 + ξ3)) (w64 (i_4 + 1))) w)
  else (
  Q (.exit 0) (x0 sum_3) w)) := B3_eq std list_0 sum_3 i_4 w k Q
theorem L3_rule (list_0 : Sl) (sum_3 : Int) (i_4 : Int) (w : World) (Q : Exit → Env → World → Prop) (I : Int → Int → World → Prop) (μ : Int → Int → World → Nat) (h0 : I sum_3 i_4 w)
    (h : ∀ (sum_3 : Int) (i_4 : Int) (w' : World), I sum_3 i_4 w' → B3 std list_0 sum_3 i_4 w' (fun e2 w2 => ∃ sum_3_n i_4_n, e2 = emb3 list_0 sum_3_n i_4_n ∧ I sum_3_n i_4_n w2 ∧ μ sum_3_n i_4_n w2 < μ sum_3 i_4 w') Q) :
    L3 std list_0 sum_3 i_4 w Q := by
  unfold L3
  refine LoopE.intro (σ := Int × Int) (step := S3 std Q) (fun s => emb3 list_0 s.1 s.2) (fun s w => I s.1 s.2 w) (fun s w => μ s.1 s.2 w) (sum_3, i_4) rfl h0 ?_
  intro s w' hI
  have h1 := h s.1 s.2 w' hI
  unfold B3 at h1
  simp only [Prod.exists]
  exact h1
theorem A3_0_eq (pr : Prims) (sum_3 : Int) (w : World) (R : Ending → World → Prop) : (q1 pr R) (.exit 0) (x0 sum_3) w = (
  R (.returned (vI sum_3)) w) := by kernel_rfl
theorem A3_0_s (sum_3 : Int) (w : World) (R : Ending → World → Prop) : (q1 std R) (.exit 0) (x0 sum_3) w = (
  R (.returned (vI sum_3)) w) := A3_0_eq std sum_3 w R
theorem E_eq (pr : Prims) (list_0 : Sl) (w : World) (R : Ending → World → Prop) : E pr list_0 w R = (
  L3 pr list_0 0 0 w (q1 pr R)) := by kernel_rfl
theorem E_s (list_0 : Sl) (w : World) (R : Ending → World → Prop) : E std list_0 w R = (
  L3 std list_0 0 0 w (q1 std R)) := E_eq std list_0 w R
theorem drawsOk : drawsOk PP cfg okD (codeOf Tryz.f21) = true := by kernel_rfl
theorem calls (list_0 : Sl) {w : World} {R : Ending → World → Prop} (h : E std list_0 w R) : Calls PP F.laws_total #[Sl.v list_0] w R :=
  calls_of noCount mixed drawOk Tryz.func21 rfl (c := cfg) (args := [Sl.v list_0]) rfl (Nat.le_of_ble_eq_true (by kernel_rfl)) drawsOk h
end laws_total

end Go.Proofs.YteplokddaebbeaaGreat

/- The laws' own helpers: big, sameInts, sameLists. -/
namespace Go.Proofs.YteplokddaebbeaaGreat
open Go Go.RowKit
set_option maxRecDepth 100000

theorem getD_I {L : List Int} {i : Nat} (hi : i < L.length) : L.getD i 0 = L[i] := by simp [List.getD_eq_getElem?_getD, List.getElem?_eq_getElem hi]
theorem c_big (a : Sl) : Pure F.laws_big #[a.v] (.bool (decide ((a.n : Int) > 1048576))) := by
  intro w
  refine laws_big.calls a ?_
  rw [laws_big.E_s]
  exact ⟨rfl, rfl⟩
theorem c_sameInts {w : World} {a b : Sl} {L M : List Int} (ha : RowI w a L) (hb : RowI w b M) (hL : L.length < 2^39) : Quiet F.laws_sameInts #[a.v, b.v] w (.bool (decide (L = M))) := by
  intro w1 hd
  have han : a.n = L.length := by have := ha.n; simpa using this
  have hbn : b.n = M.length := by have := hb.n; simpa using this
  refine laws_sameInts.calls a b ?_
  rw [laws_sameInts.E_s]
  refine bif_intro (fun h => ?_) (fun h => ?_)
  · have : L.length ≠ M.length := by simp at h; omega
    have : L ≠ M := fun e => this (by rw [e])
    exact ⟨by simp [this], Drew.refl _⟩
  have hlen : L.length = M.length := by simp at h; omega
  refine laws_sameInts.L4_rule _ _ _ _ _ (I := fun i w' => 0 ≤ i ∧ i ≤ L.length ∧ (∀ k, k < i.toNat → L[k]? = M[k]?) ∧ Drew w1 w') (μ := fun i _ => (L.length - i).toNat)
    ⟨by omega, by omega, fun k hk => by simp at hk, Drew.refl _⟩ ?_
  rintro i w' ⟨h0, hi, hall, hd2⟩
  have hh : w'.heap = w.heap := (hd.trans hd2).heap'
  rw [laws_sameInts.B4_s]
  refine bif_dec (fun h3 => ?_) (fun h3 => ?_)
  · have hlt : i.toNat < L.length := by omega
    have hlt2 : i.toNat < M.length := by omega
    refine RowI.get (ha.heap hh) h0 (by omega) ?_
    refine RowI.get (hb.heap hh) h0 (by omega) ?_
    refine drew_intro fun w3 hd3 => ?_
    rw [getD_I hlt, getD_I hlt2]
    refine bif_intro (fun h4 => ?_) (fun h4 => ?_)
    · have : L ≠ M := fun e => by subst e; simp at h4
      rw [laws_sameInts.R4_s]
      exact ⟨by simp [this], hd2.trans hd3⟩
    · have h4 : L[i.toNat] = M[i.toNat] := by simpa using h4
      refine ⟨i + 1, by rw [w64_succ h0 (by omega)], ⟨by omega, by omega, fun k hk => ?_, hd2.trans hd3⟩, by omega⟩
      by_cases hk2 : k < i.toNat
      · exact hall k hk2
      · have : k = i.toNat := by omega
        subst this
        rw [List.getElem?_eq_getElem hlt, List.getElem?_eq_getElem hlt2, h4]
  · rw [laws_sameInts.A4_0_s]
    have : L = M := by
      apply List.ext_getElem?
      intro k
      by_cases hk : k < L.length
      · exact hall k (by omega)
      · rw [List.getElem?_eq_none (by omega), List.getElem?_eq_none (by omega)]
    exact ⟨by simp [this], hd2⟩
theorem c_sameLists {w : World} {a b : Sl} {LL MM : List (List Int)} (ha : RowSS w a LL) (hb : RowSS w b MM) (hL : LL.length < 2^39) (hr : tot LL < 2^39) : Quiet F.laws_sameLists #[a.v, b.v] w (.bool (decide (LL = MM))) := by
  intro w1 hd
  have han := ha.n
  have hbn := hb.n
  refine laws_sameLists.calls a b ?_
  rw [laws_sameLists.E_s]
  refine bif_intro (fun h => ?_) (fun h => ?_)
  · have : LL.length ≠ MM.length := by simp at h; omega
    have : LL ≠ MM := fun e => this (by rw [e])
    exact ⟨by simp [this], Drew.refl _⟩
  have hlen : LL.length = MM.length := by simp at h; omega
  refine laws_sameLists.L4_rule _ _ _ _ _ (I := fun i w' => 0 ≤ i ∧ i ≤ LL.length ∧ (∀ k, k < i.toNat → LL[k]? = MM[k]?) ∧ Drew w1 w') (μ := fun i _ => (LL.length - i).toNat)
    ⟨by omega, by omega, fun k hk => by simp at hk, Drew.refl _⟩ ?_
  rintro i w' ⟨h0, hi, hall, hd2⟩
  have hh : w'.heap = w.heap := (hd.trans hd2).heap'
  rw [laws_sameLists.B4_s]
  refine bif_dec (fun h3 => ?_) (fun h3 => ?_)
  · have hlt : i.toNat < LL.length := by omega
    have hlt2 : i.toNat < MM.length := by omega
    refine RowSS.get (ha.heap hh) h0 (by omega) fun r hr1 => ?_
    refine RowSS.get (hb.heap hh) h0 (by omega) fun t ht1 => ?_
    rw [getD_SS hlt] at hr1
    rw [getD_SS hlt2] at ht1
    have h40 := len_le_tot (List.getElem_mem hlt)
    refine Quiet.qcall1 (s := .bool) (c_sameInts hr1 ht1 (by omega)) ?_
    refine drew_intro fun w3 hd3 => ?_
    refine bif_intro (fun h4 => ?_) (fun h4 => ?_)
    · have : LL ≠ MM := fun e => by subst e; simp at h4
      rw [laws_sameLists.R4_s]
      exact ⟨by simp [this], hd2.trans hd3⟩
    · have h4 : LL[i.toNat] = MM[i.toNat] := by simpa using h4
      refine ⟨i + 1, by rw [w64_succ h0 (by omega)], ⟨by omega, by omega, fun k hk => ?_, hd2.trans hd3⟩, by omega⟩
      by_cases hk2 : k < i.toNat
      · exact hall k hk2
      · have : k = i.toNat := by omega
        subst this
        rw [List.getElem?_eq_getElem hlt, List.getElem?_eq_getElem hlt2, h4]
  · rw [laws_sameLists.A4_0_s]
    have : LL = MM := by
      apply List.ext_getElem?
      intro k
      by_cases hk : k < LL.length
      · exact hall k (by omega)
      · rw [List.getElem?_eq_none (by omega), List.getElem?_eq_none (by omega)]
    exact ⟨by simp [this], hd2⟩

end Go.Proofs.YteplokddaebbeaaGreat

/- FnRules: the law. -/
namespace Go.Proofs.YteplokddaebbeaaGreat
open Go Go.RowKit
set_option maxRecDepth 100000

def Good (w0 : World) (e : Ending) (w' : World) : Prop := e = .returned (.bool true) ∧ Below w0.heap.size w0 w'
theorem sum_bd : ∀ {l : List Int}, (∀ x ∈ l, 0 ≤ x ∧ x ≤ 8) → 0 ≤ l.sum ∧ l.sum ≤ 8 * l.length
  | [], _ => by simp
  | x :: l, h => by
    have h1 := h x (by simp)
    have h2 := sum_bd (l := l) fun y hy => h y (by simp [hy])
    rw [List.sum_cons, List.length_cons]; omega
theorem c_lawsTotal {w : World} {a : Sl} {L : List Int} (ha : RowI w a L) (hx : ∀ x ∈ L, 0 ≤ x ∧ x ≤ 8) (hL : L.length < 2^38) : Quiet F.laws_total #[a.v] w (vI L.sum) := by
  intro w1 hd
  have han : a.n = L.length := by have := ha.n; simpa using this
  refine laws_total.calls a ?_
  rw [laws_total.E_s]
  refine laws_total.L3_rule _ _ _ _ _ (I := fun s k w' => w' = w1 ∧ 0 ≤ k ∧ k ≤ L.length ∧ s = (L.take k.toNat).sum) (μ := fun _ k _ => (L.length - k).toNat) ⟨rfl, by omega, by omega, rfl⟩ ?_
  rintro s k w' ⟨rfl, h0, hk, hs⟩
  rw [laws_total.B3_s, han]
  refine bif_dec (fun h3 => ?_) (fun h3 => ?_)
  · have hlt : k.toNat < L.length := by omega
    refine RowI.get (ha.heap hd.heap') h0 (by omega) ?_
    have e1 : L.getD k.toNat 0 = L[k.toNat] := by simp [List.getD_eq_getElem?_getD, List.getElem?_eq_getElem hlt]
    have e2 : (L.take (k + 1).toNat).sum = s + L[k.toNat] := by
      rw [show (k + 1).toNat = k.toNat + 1 by omega, List.take_succ_eq_append_getElem hlt, List.sum_append, hs]; simp
    have h4 := sum_bd (l := L.take (k + 1).toNat) fun x hx' => hx x (List.mem_of_mem_take hx')
    rw [e2, List.length_take] at h4
    refine ⟨s + L[k.toNat], k + 1, ?_, ⟨rfl, by omega, by omega, e2.symm⟩, by omega⟩
    rw [w64_succ h0 (by omega), e1, w64_id (by omega) (by omega)]
  · rw [laws_total.A3_0_s]
    have e : k.toNat = L.length := by omega
    rw [e, List.take_length] at hs
    exact ⟨by rw [hs], Drew.refl _⟩
theorem lawJ14 {w0 w : World} {l r : Sl} {LL : List (List Int)} {n : Int} (hb0 : Below w0.heap.size w0 w) (hl0 : RowSS w l LL) (hl1 : LL.length ≤ 9) (hl2 : tot LL ≤ 72) (hr0 : RowSS w r (RuleUpToV LL n)) :
    laws_FnRules.J14 std l n r (RuleUpToV1 LL n) w (Good w0) := by
  rw [laws_FnRules.J14_s]
  refine bif_intro (fun _ => ⟨rfl, hb0⟩) (fun h => ?_)
  have h : RuleUpToV1 LL n = true := by simpa using h
  classical
  unfold RuleUpToV1 at h
  obtain ⟨hB, h0, h5, R, hT⟩ := of_decide_eq_true h
  have hV := (told_V hB h0 h5 hT).2
  rw [hV] at hr0
  have hrn := hr0.n
  have h7 := told_short (n := n.toNat + 1) (by omega) (fun z hz => hz) hT
  refine laws_FnRules.L17_rule _ _ _ _ _ _ (I := fun i w' => 0 ≤ i ∧ i ≤ R.length ∧ Below w.heap.size w w') (μ := fun i _ => (R.length - i).toNat) ⟨by omega, by omega, Below.refl _ _⟩ ?_
  rintro i w1 ⟨hi0, hi, hb1⟩
  have hl := hl0.grow hb1
  have hr := hr0.grow hb1
  rw [laws_FnRules.B17_s, hrn]
  refine bif_dec (fun h3 => ?_) (fun h3 => ?_)
  · have hlt : i.toNat < R.length := by omega
    have hm := (hT.2 _).1 (List.getElem_mem hlt)
    have hf := ent_facts (n := n.toNat + 1) (by omega) hm
    obtain ⟨m, p, _, _, he⟩ := ents_mem hm
    have hlen : ((R[i.toNat]).length : Int) = (R[i.toNat]).getD 0 0 + 1 := by
      rw [he]
      show ((ent LL p).length : Int) = siteN LL p + 1
      rw [ent, List.length_cons, labsV_length, children_len, siteN]; omega
    have hpos : 0 < (R[i.toNat]).length := List.length_pos_iff.2 hf.2.2.2
    have hh0 : 0 ≤ (R[i.toNat]).getD 0 0 ∧ (R[i.toNat]).getD 0 0 ≤ 6 := ⟨hf.1, hf.2.1⟩
    have next : ∀ w2, Below w1.heap.size w1 w2 → Below w.heap.size w w2 := fun w2 g => hb1.trans (g.mono hb1.size)
    refine RowSS.get hr hi0 (by omega) fun s hs => ?_
    rw [getD_SS hlt] at hs
    refine RowSS.get hr hi0 (by omega) fun s2 hs2 => ?_
    rw [getD_SS hlt] at hs2
    have hsn : s.n = (R[i.toNat]).length := by have := hs.n; simpa using this
    refine RowI.get hs2 (by omega) (by omega) ?_
    refine bif_f (by
      show (((s.n : Nat) : Int) != w64 ((R[i.toNat]).getD 0 0 + 1)) = false
      rw [hsn, hlen, w64_id (by omega) (by omega)]; simp) ?_
    refine bif_dec (fun h4 => ?_) (fun h4 => ?_)
    · have e1 : w64 (i - 1) = i - 1 := w64_id (by omega) (by omega)
      rw [e1]
      have hlt2 : (i - 1).toNat < R.length := by omega
      have hf2 := ent_facts (n := n.toNat + 1) (by omega) ((hT.2 _).1 (List.getElem_mem hlt2))
      have hpos2 : 0 < (R[(i - 1).toNat]).length := List.length_pos_iff.2 hf2.2.2.2
      refine RowSS.get hr hi0 (by omega) fun s3 hs3 => ?_
      rw [getD_SS hlt] at hs3
      refine RowI.get hs3 (by omega) (by omega) ?_
      refine RowSS.get hr (by omega) (by omega) fun s4 hs4 => ?_
      rw [getD_SS hlt2] at hs4
      refine RowI.get hs4 (by omega) (by omega) ?_
      refine drew_intro fun w2 hdr => ?_
      have hlt3 := str_idx hT.1 (i := (i - 1).toNat) (j := i.toNat) (by omega) hlt
      rw [getD_SS hlt, getD_SS hlt2] at hlt3
      show laws_FnRules.J20 std _ _ _ _ _ _ _ _
      rw [laws_FnRules.J20_s]
      refine bif_f (by
        show decide ((R[i.toNat]).getD 0 0 ≤ (R[(i - 1).toNat]).getD 0 0) = false
        exact decide_eq_false (by unfold hd at hlt3; omega)) ?_
      rw [laws_FnRules.J18_s]
      exact ⟨i + 1, by rw [w64_succ hi0 (by omega)], ⟨by omega, by omega, next w2 (hdr.below _)⟩, by omega⟩
    · refine drew_intro fun w2 hdr => ?_
      show laws_FnRules.J20 std _ _ _ _ _ _ _ _
      rw [laws_FnRules.J20_s]
      refine bif_f rfl ?_
      rw [laws_FnRules.J18_s]
      exact ⟨i + 1, by rw [w64_succ hi0 (by omega)], ⟨by omega, by omega, next w2 (hdr.below _)⟩, by omega⟩
  · rw [laws_FnRules.A17_0_s]
    have hb := hb0.trans (hb1.mono hb0.size)
    have h8 := tot_le_mul' (l := R) (n := 8) fun p hp => (ent_facts (n := n.toNat + 1) (by omega) ((hT.2 p).1 hp)).2.2.1
    refine lit0 oneInt (B := w1.heap.size) (Nat.le_refl _) ?_
    intro o w2 ho hg2 _
    have b2 := below_of_grow hg2
    have hb := hb.trans (b2.mono hb.size)
    have hl := hl.grow b2
    have hr := hr.grow b2
    have ho : RowI w2 o [] := ho.row
    refine (c_specLabelOf hl (by omega) (by omega) ho (by simp)).mono ?_
    rintro e w_1 ⟨rfl, g1⟩
    refine ⟨_, rfl, ?_⟩
    have hb := hb.trans (g1.mono hb.size)
    have hl := hl.grow g1
    have hr := hr.grow g1
    have ho := ho.grow g1
    refine (c_implRuleCounts hr (by omega) (by omega) (LabelOfV LL []) n).mono ?_
    rintro e w_2 ⟨u, rfl, hu, g2⟩
    refine ⟨u, rfl, ?_⟩
    have hb := hb.trans (g2.mono hb.size)
    have hl := hl.grow g2
    have hr := hr.grow g2
    have ho := ho.grow g2
    have hu := hu.row
    refine (c_specClassCounts hl (by omega) (by omega) n).mono ?_
    rintro e w_3 ⟨v, rfl, hv, g3⟩
    refine ⟨v, rfl, ?_⟩
    have hb := hb.trans (g3.mono hb.size)
    have hl := hl.grow g3
    have hr := hr.grow g3
    have ho := ho.grow g3
    have hu := hu.grow g3
    have hv := hv.row
    have hcl := RuleCountsV_len R (LabelOfV LL []) n
    refine Quiet.call1 (s := .bool) (c_sameInts hu hv (by omega)) ?_
    intro w_4 g4
    replace g4 : Below w_3.heap.size w_3 w_4 := g4.below _
    have hb := hb.trans (g4.mono hb.size)
    have hl := hl.grow g4
    have hr := hr.grow g4
    have ho := ho.grow g4
    have hu := hu.grow g4
    have hv := hv.grow g4
    exact ⟨by rw [decide_eq_true (rule_counts hB h0 h5 hT)], hb⟩
theorem lawJ12 {w0 w : World} {l r b v : Sl} {LL BB : List (List Int)} {n m : Int} (hb : Below w0.heap.size w0 w) (hl : RowSS w l LL) (hl1 : LL.length ≤ 9) (hl2 : tot LL ≤ 72) (hr : RowSS w r (RuleUpToV LL n))
    (hB : RowSS w b BB) (hB1 : BB.length ≤ 4) (hB2 : tot BB ≤ 40) (hm1 : -1 ≤ m) (hm2 : m ≤ 7) (hv : RowI w v (LabelsAtV BB m)) : laws_FnRules.J12 std l n r (RuleUpToV1 LL n) b m v w (Good w0) := by
  have hvn : v.n = (LabelsAtV BB m).length := by have := hv.n; simpa using this
  have j13 : ∀ w2, Below w.heap.size w w2 → laws_FnRules.J13 std l n r (RuleUpToV1 LL n) false w2 (Good w0) := fun w2 g => by
    rw [laws_FnRules.J13_s]
    refine bif_f rfl ?_
    exact lawJ14 (hb.trans (g.mono hb.size)) (hl.grow g) hl1 hl2 (hr.grow g)
  rw [laws_FnRules.J12_s, hvn]
  refine bif_dec (fun h1 => ?_) (fun _ => j13 w (Below.refl _ _))
  refine bif_dec (fun h2 => ?_) (fun _ => j13 w (Below.refl _ _))
  have hc : BasisOk BB ∧ 0 ≤ m ∧ m ≤ 6 := by
    by_cases hc : BasisOk BB ∧ 0 ≤ m ∧ m ≤ 6
    · exact hc
    · rw [LabelsAtV, if_neg hc] at h1; simp at h1
  have hV : LabelsAtV BB m = labsV BB (classV BB m.toNat) := by rw [LabelsAtV, if_pos hc]
  have hx : ∀ x ∈ LabelsAtV BB m, 0 ≤ x ∧ x ≤ 8 := by
    intro x hx
    rw [hV, labsV, (sortI_perm _).mem_iff] at hx
    obtain ⟨p, hp, rfl⟩ := List.mem_map.1 hx
    have e1 := class_pl hp
    have e2 := sitesT_len BB p (p.length + 1)
    unfold siteN sitesV
    omega
  have e1 : w64 (m + 1) = m + 1 := w64_succ (by omega) (by omega)
  have hlen := LabelsAtV_len BB m
  rw [e1]
  refine Quiet.call1 (s := (.int .i64)) (c_lawsTotal hv hx hlen) ?_
  intro w_5 g5
  replace g5 : Below w.heap.size w w_5 := g5.below _
  have hb := hb.trans (g5.mono hb.size)
  have hl := hl.grow g5
  have hr := hr.grow g5
  have hB := hB.grow g5
  have hv := hv.grow g5
  refine (c_ClassOf hB (by omega) (by omega) (m + 1)).mono ?_
  rintro e w3 ⟨s, rfl, hs, g3⟩
  refine ⟨s, rfl, ?_⟩
  have hsn := hs.row.n
  have hb := hb.trans (g3.mono hb.size)
  have hl := hl.grow g3
  have hr := hr.grow g3
  show laws_FnRules.J13 std _ _ _ _ _ _ _
  rw [laws_FnRules.J13_s]
  refine bif_f (by
    rw [hsn, hV, labs_total, ClassOfV, if_pos ⟨hc.1, by omega, by omega⟩, show (m + 1).toNat = m.toNat + 1 by omega]; simp) ?_
  exact lawJ14 hb hl hl1 hl2 hr
set_option maxHeartbeats 2000000 in
theorem lawC_FnRules (a : Sl) (L : List Int) (w : World) (ha : RowB w a L) (_ : L.length ≤ maxLen) :
    Calls PP F.laws_FnRules #[a.v] w fun e w' => e = .returned (.bool true) ∧ Below w.heap.size w w' := by
  refine laws_FnRules.calls a ?_
  rw [laws_FnRules.E_s]
  have hb : Below w.heap.size w w := Below.refl _ _
  refine Pure.pcall1 (s := .bool) (c_big a) ?_
  refine bif_dec (fun _ => ⟨rfl, hb⟩) (fun hbig => ?_)
  have hL : L.length < 2^60 := by have := ha.n; simp at this; omega
  refine (c_DrawRuleUpTo ha hL).mono ?_
  rintro e w_6 ⟨l, LL, n, rfl, hl, hl1, hl2, hn1, hn2, g6⟩
  refine ⟨l, n, rfl, ?_⟩
  have hb := hb.trans (g6.mono hb.size)
  have ha := ha.grow g6
  refine (c_implRuleUpTo hl (by omega) (by omega) n).mono ?_
  rintro e w_7 ⟨r, rfl, hr, g7⟩
  refine ⟨r, _, rfl, ?_⟩
  have hb := hb.trans (g7.mono hb.size)
  have ha := ha.grow g7
  have hl := hl.grow g7
  have hr := hr.row
  refine (c_specRuleUpTo hl (by omega) (by omega) n).mono ?_
  rintro e w_8 ⟨r2, rfl, hr2, g8⟩
  refine ⟨r2, _, rfl, ?_⟩
  have hb := hb.trans (g8.mono hb.size)
  have ha := ha.grow g8
  have hl := hl.grow g8
  have hr := hr.grow g8
  refine (c_DrawChildLabels ha hL).mono ?_
  rintro e w_9 ⟨q, p, QQ, P, rfl, hq, hq1, hq2, hp, hpl, g9⟩
  refine ⟨q, p, rfl, ?_⟩
  have hb := hb.trans (g9.mono hb.size)
  have ha := ha.grow g9
  have hl := hl.grow g9
  have hr := hr.grow g9
  have hr2 := hr2.grow g9
  refine (c_DrawLabelsAt ha hL).mono ?_
  rintro e w_10 ⟨b, BB, m, rfl, hB, hB1, hB2, hm1, hm2, g10⟩
  refine ⟨b, m, rfl, ?_⟩
  have hb := hb.trans (g10.mono hb.size)
  have ha := ha.grow g10
  have hl := hl.grow g10
  have hr := hr.grow g10
  have hr2 := hr2.grow g10
  have hq := hq.grow g10
  have hp := hp.grow g10
  refine (c_DrawRuleCounts ha hL).mono ?_
  rintro e w_11 ⟨u, R, x, k, rfl, hu, hu1, hu2, g11⟩
  refine ⟨u, x, k, rfl, ?_⟩
  have hb := hb.trans (g11.mono hb.size)
  have ha := ha.grow g11
  have hl := hl.grow g11
  have hr := hr.grow g11
  have hr2 := hr2.grow g11
  have hq := hq.grow g11
  have hp := hp.grow g11
  have hB := hB.grow g11
  refine (c_implLabelsAt hB (by omega) (by omega) m).mono ?_
  rintro e w_12 ⟨v, rfl, hv, g12⟩
  refine ⟨v, rfl, ?_⟩
  have hb := hb.trans (g12.mono hb.size)
  have hl := hl.grow g12
  have hr := hr.grow g12
  have hr2 := hr2.grow g12
  have hq := hq.grow g12
  have hp := hp.grow g12
  have hB := hB.grow g12
  have hu := hu.grow g12
  have hv := hv.row
  refine bif_f (by simp) ?_
  obtain ⟨rl1, rl2⟩ := RuleUpToV_len LL n
  have cl := ChildLabelsV_len QQ P
  have vl := LabelsAtV_len BB m
  have ul := RuleCountsV_len R x k
  refine Quiet.call1 (s := .bool) (c_sameLists hr hr2 (by omega) (by omega)) ?_
  intro w_13 g13
  replace g13 : Below w_12.heap.size w_12 w_13 := g13.below _
  have hb := hb.trans (g13.mono hb.size)
  have hl := hl.grow g13
  have hr := hr.grow g13
  have hr2 := hr2.grow g13
  have hq := hq.grow g13
  have hp := hp.grow g13
  have hB := hB.grow g13
  have hu := hu.grow g13
  have hv := hv.grow g13
  refine bif_f (by simp) ?_
  refine (c_implChildLabels hq (by omega) (by omega) hp (by omega)).mono ?_
  rintro e w_14 ⟨c, rfl, hc, g14⟩
  refine ⟨c, rfl, ?_⟩
  have hb := hb.trans (g14.mono hb.size)
  have hl := hl.grow g14
  have hr := hr.grow g14
  have hq := hq.grow g14
  have hp := hp.grow g14
  have hB := hB.grow g14
  have hu := hu.grow g14
  have hv := hv.grow g14
  have hc := hc.row
  refine (c_specChildLabels hq (by omega) (by omega) hp (by omega)).mono ?_
  rintro e w_15 ⟨c2, rfl, hc2, g15⟩
  refine ⟨c2, rfl, ?_⟩
  have hb := hb.trans (g15.mono hb.size)
  have hl := hl.grow g15
  have hr := hr.grow g15
  have hq := hq.grow g15
  have hp := hp.grow g15
  have hB := hB.grow g15
  have hu := hu.grow g15
  have hv := hv.grow g15
  have hc := hc.grow g15
  refine Quiet.call1 (s := .bool) (c_sameInts hc hc2 (by omega)) ?_
  intro w_16 g16
  replace g16 : Below w_15.heap.size w_15 w_16 := g16.below _
  have hb := hb.trans (g16.mono hb.size)
  have hl := hl.grow g16
  have hr := hr.grow g16
  have hq := hq.grow g16
  have hp := hp.grow g16
  have hB := hB.grow g16
  have hu := hu.grow g16
  have hv := hv.grow g16
  have hc := hc.grow g16
  have hc2 := hc2.grow g16
  refine bif_f (by simp) ?_
  refine (c_specLabelsAt hB (by omega) (by omega) m).mono ?_
  rintro e w_17 ⟨v2, rfl, hv2, g17⟩
  refine ⟨v2, rfl, ?_⟩
  have hb := hb.trans (g17.mono hb.size)
  have hl := hl.grow g17
  have hr := hr.grow g17
  have hq := hq.grow g17
  have hp := hp.grow g17
  have hB := hB.grow g17
  have hu := hu.grow g17
  have hv := hv.grow g17
  refine Quiet.call1 (s := .bool) (c_sameInts hv hv2 (by omega)) ?_
  intro w_18 g18
  replace g18 : Below w_17.heap.size w_17 w_18 := g18.below _
  have hb := hb.trans (g18.mono hb.size)
  have hl := hl.grow g18
  have hr := hr.grow g18
  have hq := hq.grow g18
  have hp := hp.grow g18
  have hB := hB.grow g18
  have hu := hu.grow g18
  have hv := hv.grow g18
  have hv2 := hv2.grow g18
  refine bif_f (by simp) ?_
  refine (c_implRuleCounts hu (by omega) (by omega) x k).mono ?_
  rintro e w_19 ⟨d, rfl, hd, g19⟩
  refine ⟨d, rfl, ?_⟩
  have hb := hb.trans (g19.mono hb.size)
  have hl := hl.grow g19
  have hr := hr.grow g19
  have hq := hq.grow g19
  have hp := hp.grow g19
  have hB := hB.grow g19
  have hu := hu.grow g19
  have hv := hv.grow g19
  have hd := hd.row
  refine (c_specRuleCounts hu (by omega) (by omega) x k).mono ?_
  rintro e w_20 ⟨d2, rfl, hd2, g20⟩
  refine ⟨d2, rfl, ?_⟩
  have hb := hb.trans (g20.mono hb.size)
  have hl := hl.grow g20
  have hr := hr.grow g20
  have hq := hq.grow g20
  have hp := hp.grow g20
  have hB := hB.grow g20
  have hu := hu.grow g20
  have hv := hv.grow g20
  have hd := hd.grow g20
  refine Quiet.call1 (s := .bool) (c_sameInts hd hd2 (by omega)) ?_
  intro w_21 g21
  replace g21 : Below w_20.heap.size w_20 w_21 := g21.below _
  have hb := hb.trans (g21.mono hb.size)
  have hl := hl.grow g21
  have hr := hr.grow g21
  have hq := hq.grow g21
  have hp := hp.grow g21
  have hB := hB.grow g21
  have hu := hu.grow g21
  have hv := hv.grow g21
  have hd := hd.grow g21
  have hd2 := hd2.grow g21
  refine bif_f (by simp) ?_
  refine (c_implLabelOf hq (by omega) (by omega) hp (by omega)).mono ?_
  rintro e w_22 ⟨rfl, g22⟩
  refine ⟨_, rfl, ?_⟩
  have hb := hb.trans (g22.mono hb.size)
  have hl := hl.grow g22
  have hr := hr.grow g22
  have hq := hq.grow g22
  have hp := hp.grow g22
  have hB := hB.grow g22
  have hv := hv.grow g22
  refine (c_specLabelOf hq (by omega) (by omega) hp (by omega)).mono ?_
  rintro e w_23 ⟨rfl, g23⟩
  refine ⟨_, rfl, ?_⟩
  have hb := hb.trans (g23.mono hb.size)
  have hl := hl.grow g23
  have hr := hr.grow g23
  have hq := hq.grow g23
  have hp := hp.grow g23
  have hB := hB.grow g23
  have hv := hv.grow g23
  show laws_FnRules.J11 std _ _ _ _ _ _ _ _ _ _
  rw [laws_FnRules.J11_s]
  refine bif_f (by simp) ?_
  exact lawJ12 hb hl hl1 hl2 hr hB hB1 hB2 hm1 hm2 hv
end Go.Proofs.YteplokddaebbeaaGreat
