/- StackSources and CountTwoPasses: both texts, and the laws. -/
import Derived.Test.YtliabbhfagfagaaCodeC
import Derived.Test.YtliabbhfagfagaaPassLaws
import Derived.Test.YtliabbhfagfagaaPerms
import Derived.Test.YtliabbhfagfagaaLawSs
namespace Go.Proofs.Ytliabbhfagfagaa
open Go Go.RowKit
set_option maxRecDepth 100000

theorem c_Equal {w : World} {a b : Sl} {L M : List Int} (ha : RowI w a L) (hb : RowI w b M) (hL : L.length < 2^39) : Quiet F.slices_Equal___int_int_ #[a.v, b.v] w (.bool (decide (L = M))) := by
  intro w1 hd
  have han : a.n = L.length := by have := ha.n; simpa using this
  have hbn : b.n = M.length := by have := hb.n; simpa using this
  refine slices_Equal___int_int_.calls a b ?_
  rw [slices_Equal___int_int_.E_s]
  refine bif_intro (fun h => ?_) (fun h => ?_)
  · have : L.length ≠ M.length := by simp at h; omega
    have : L ≠ M := fun e => this (by rw [e])
    exact ⟨by simp [this], Drew.refl _⟩
  have hlen : L.length = M.length := by simp at h; omega
  refine slices_Equal___int_int_.L4_rule _ _ _ _ _ _ (I := fun i w' => 0 ≤ i ∧ i ≤ L.length ∧ (∀ k, k < i.toNat → L[k]? = M[k]?) ∧ Drew w1 w') (μ := fun i _ => (L.length - i).toNat)
    ⟨by omega, by omega, fun k hk => by simp at hk, Drew.refl _⟩ ?_
  rintro i w' ⟨h0, hi, hall, hd2⟩
  have hh : w'.heap = w.heap := (hd.trans hd2).heap'
  rw [slices_Equal___int_int_.B4_s]
  refine bif_dec (fun h3 => ?_) (fun h3 => ?_)
  · have hlt : i.toNat < L.length := by omega
    have hlt2 : i.toNat < M.length := by omega
    refine RowI.get (ha.heap hh) h0 (by omega) ?_
    refine RowI.get (hb.heap hh) h0 (by omega) ?_
    refine drew_intro fun w3 hd3 => ?_
    rw [getD_eq hlt, getD_eq hlt2]
    refine bif_intro (fun h4 => ?_) (fun h4 => ?_)
    · have : L ≠ M := fun e => by subst e; simp at h4
      rw [slices_Equal___int_int_.R4_s]
      exact ⟨by simp [this], hd2.trans hd3⟩
    · have h4 : L[i.toNat] = M[i.toNat] := by simpa using h4
      refine ⟨i + 1, by rw [w64_succ h0 (by omega)], ⟨by omega, by omega, fun k hk => ?_, hd2.trans hd3⟩, by omega⟩
      by_cases hk2 : k < i.toNat
      · exact hall k hk2
      · have : k = i.toNat := by omega
        subst this
        rw [List.getElem?_eq_getElem hlt, List.getElem?_eq_getElem hlt2, h4]
  · rw [slices_Equal___int_int_.A4_0_s]
    have : L = M := by
      apply List.ext_getElem?
      intro k
      by_cases hk : k < L.length
      · exact hall k (by omega)
      · rw [List.getElem?_eq_none (by omega), List.getElem?_eq_none (by omega)]
    exact ⟨by simp [this], hd2⟩

def srcV (L : List Int) (l : List (List Int)) : List (List Int) := l.filter fun p => decide (passV p = L)
theorem srcV_snoc (L : List Int) (l : List (List Int)) (p : List Int) : srcV L (l ++ [p]) = if passV p = L then srcV L l ++ [p] else srcV L l := by
  unfold srcV
  rw [List.filter_append]
  split
  · rename_i h; simp [h]
  · rename_i h; simp [h]
open Classical in
noncomputable def StackSourcesV (L : List Int) : List (List Int) := if IsP L ∧ L.length ≤ 6 then srcV L (permsV L.length) else []
theorem permsV_len6 {n : Nat} (hn : n ≤ 6) : (permsV n).length ≤ 46656 := Nat.le_trans (permsV_length n) (Nat.le_trans (Nat.pow_le_pow_left hn n) (Nat.pow_le_pow_right (by omega) hn))
theorem tot_le_mul {l : List (List Int)} {n : Nat} (h : ∀ p ∈ l, p.length ≤ n) : tot l ≤ l.length * n := by
  induction l with
  | nil => simp [tot]
  | cons x r ih =>
    have h1 := h x (by simp)
    have h2 := ih (fun p hp => h p (by simp [hp]))
    rw [tot_cons, List.length_cons, Nat.succ_mul]; omega
theorem StackSourcesV_len (L : List Int) : (StackSourcesV L).length < 2^38 ∧ tot (StackSourcesV L) < 2^38 := by
  unfold StackSourcesV
  split
  · rename_i h
    have h1 : (srcV L (permsV L.length)).length ≤ 46656 := Nat.le_trans (List.length_filter_le _ _) (permsV_len6 h.2)
    have h2 : tot (srcV L (permsV L.length)) ≤ (srcV L (permsV L.length)).length * 6 := tot_le_mul fun p hp => by
      have := permsV_len (List.mem_filter.1 hp).1
      omega
    omega
  · simp [tot]
theorem c_implStackSources {w : World} {a : Sl} {L : List Int} (ha : RowI w a L) (hL : L.length < 2^38) :
    Calls PP F.impl_StackSources #[a.v] w fun e w' => ∃ s : Sl, e = .returned s.v ∧ OwnSS w' w.heap.size s (StackSourcesV L) ∧ Below w.heap.size w w' := by
  have han : a.n = L.length := by have := ha.n; simpa using this
  refine impl_StackSources.calls a ?_
  rw [impl_StackSources.E_s, han]
  refine (c_implIsPerm ha hL).mono ?_
  rintro e w1 ⟨rfl, hb1⟩
  refine ⟨_, rfl, ?_⟩
  refine bif_intro (fun h => ?_) (fun h => ?_)
  · have h : ¬ IsP L := by simpa using h
    exact ⟨Sl.nil, rfl, by rw [StackSourcesV, if_neg (fun hh => h hh.1)]; exact OwnSS.none _ _, hb1⟩
  have h : IsP L := by simpa using h
  refine bif_dec (fun h6 => ?_) (fun h6 => ?_)
  · exact ⟨Sl.nil, rfl, by rw [StackSourcesV, if_neg (fun hh => by omega)]; exact OwnSS.none _ _, hb1⟩
  have hs : StackSourcesV L = srcV L (permsV L.length) := by rw [StackSourcesV, if_pos ⟨h, by omega⟩]
  refine lit0 oneSint (B := w.heap.size) hb1.size ?_
  intro o0 w2 ho0 hg2 _
  have hb2 := hb1.grown hg2 hb1.size (by simp)
  refine (c_perms L.length (by omega)).mono ?_
  rintro e w3 ⟨t, rfl, ht, hb23⟩
  refine ⟨t, rfl, ?_⟩
  have hb3 := hb2.trans (hb23.mono hb2.size)
  have htn := ht.row.n
  have hcnt := permsV_len6 (n := L.length) (by omega)
  obtain ⟨ts, ht⟩ := ht
  -- the rows that stand in the output are rows of the list of all
  refine impl_StackSources.L5_rule _ _ _ _ _ _ _ (I := fun s i w' => 0 ≤ i ∧ i ≤ (permsV L.length).length ∧ Below w.heap.size w w' ∧ OwnRows w' w2.heap.size t ts (permsV L.length) ∧ Apt s t ∧
      ∃ rs, OwnRows w' w.heap.size s rs (srcV L ((permsV L.length).take i.toNat)) ∧ (∀ r ∈ rs, ∃ j, j < i.toNat ∧ ts[j]? = some r)) (μ := fun _ i _ => ((permsV L.length).length - i).toNat)
    ⟨by omega, by omega, hb3, ht, Apt.of_lt (fun g hg => (ho0.lt g hg).2) (fun g hg => (ht.out.lt g hg).1), [], (OwnRows.nil ho0).grow hb23, fun r hr => by simp at hr⟩ ?_
  rintro s i w' ⟨hi0, hi, hb, htw, hst, rs, hrs, hsub⟩
  rw [impl_StackSources.B5_s, htn]
  refine bif_dec (fun h3 => ?_) (fun h3 => ?_)
  · have hlt : i.toNat < (permsV L.length).length := by omega
    refine OwnRows.load htw hi0 (by omega) fun r hr hor => ?_
    rw [getD_SS hlt] at hor
    have hpl := permsV_len (List.getElem_mem hlt)
    have hsucc : (i + 1).toNat = i.toNat + 1 := by omega
    refine (c_stackPass hor.row (by omega)).mono ?_
    rintro e w4 ⟨u, rfl, hu, hb4⟩
    refine ⟨u, rfl, ?_⟩
    refine Quiet.call1 (s := .bool) (c_Equal hu.row (ha.grow (hb.trans (hb4.mono hb.size))) (by rw [passV_length]; omega)) ?_
    intro w5 hd5
    have hb45 : Below w'.heap.size w' w5 := hb4.trans (hd5.below _)
    have hb5 := hb.trans (hb45.mono hb.size)
    have hcn : (srcV L ((permsV L.length).take i.toNat)).length ≤ 46656 := Nat.le_trans (List.length_filter_le _ _) (by rw [List.length_take]; omega)
    refine bif_dec (fun h7 => ?_) (fun h7 => ?_)
    · refine append_sl (hrs.grow hb45) hb5.size ((hor.grow hb45).mono hb2.size) (fun x hx g e1 e2 => ?_) (by omega) ?_
      · obtain ⟨j, hj, hj2⟩ := hsub x hx
        exact htw.apt j i.toNat x r (by omega) hj2 hr g e1 e2
      intro s' w6 hs6 hg6 hn6
      refine ⟨s', i + 1, by rw [w64_succ hi0 (by omega)], ⟨by omega, by omega, hb5.grown hg6 hb5.size (fun g hg => ((hrs.grow hb45).out.lt g hg).1), ?_, hst.next hn6 (fun g hg => ((htw.grow hb45).out.lt g hg).2), rs ++ [r], ?_, fun x hx => ?_⟩, by omega⟩
      · -- the list of all is not touched
        refine (htw.grow hb45).keeps (keeps_grown hg6) (fun g e1 e2 => hst g e2 e1) (fun x hx g e1 e2 => ?_)
        obtain ⟨M, _, hom⟩ := (htw.grow hb45).own hx
        exact ((hrs.grow hb45).out.apt hom (by decide)) g e2 e1
      · rw [hsucc, List.take_succ_eq_append_getElem hlt, srcV_snoc, if_pos h7]
        exact hs6
      · rcases List.mem_append.1 hx with h8 | h8
        · obtain ⟨j, hj, hj2⟩ := hsub x h8
          exact ⟨j, by omega, hj2⟩
        · have : x = r := by simpa using h8
          subst this; exact ⟨i.toNat, by omega, hr⟩
    · refine ⟨s, i + 1, by rw [w64_succ hi0 (by omega)], ⟨by omega, by omega, hb5, htw.grow hb45, hst, rs, ?_, fun x hx => ?_⟩, by omega⟩
      · rw [hsucc, List.take_succ_eq_append_getElem hlt, srcV_snoc, if_neg h7]
        exact hrs.grow hb45
      · obtain ⟨j, hj, hj2⟩ := hsub x hx
        exact ⟨j, by omega, hj2⟩
  · rw [impl_StackSources.A5_0_s]
    rw [show i.toNat = (permsV L.length).length by omega, List.take_length] at hrs
    exact ⟨s, rfl, by rw [hs]; exact ⟨rs, hrs⟩, hb⟩

theorem c_specStackSources {w : World} {a : Sl} {L : List Int} (ha : RowI w a L) (hL : L.length < 2^38) :
    Calls PP F.spec_StackSources #[a.v] w fun e w' => ∃ s : Sl, e = .returned s.v ∧ RowSS w' s (StackSourcesV L) ∧ Below w.heap.size w w' := by
  have han : a.n = L.length := by have := ha.n; simpa using this
  refine spec_StackSources.calls a ?_
  rw [spec_StackSources.E_s, han]
  refine lit0 oneSint (B := w.heap.size) (Nat.le_refl _) ?_
  intro o0 w1 ho0 hg1 _
  have hb1 := below_of_grow hg1
  refine Quiet.call1 (s := .bool) (c_specIsPerm (ha.grow hb1) hL) ?_
  intro w2 hd2
  have hb2 := hb1.trans (hd2.below _)
  have ho2 : OwnSS w2 w.heap.size o0 [] := (OwnSS.nil ho0).heap hd2.heap'
  refine bif_intro (fun h => ?_) (fun h => ?_)
  · have h : ¬ IsP L := by simpa using h
    exact ⟨o0, rfl, by rw [StackSourcesV, if_neg (fun hh => h hh.1)]; exact ho2.row, hb2⟩
  have h : IsP L := by simpa using h
  refine bif_dec (fun h6 => ?_) (fun h6 => ?_)
  · exact ⟨o0, rfl, by rw [StackSourcesV, if_neg (fun hh => by omega)]; exact ho2.row, hb2⟩
  have hs : StackSourcesV L = srcV L (permsV L.length) := by rw [StackSourcesV, if_pos ⟨h, by omega⟩]
  refine (c_PermsOf L.length).mono ?_
  rintro e w3 ⟨t, rfl, ht, hb23⟩
  refine ⟨t, rfl, ?_⟩
  have hp : PermsV (L.length : Int) = permsV L.length := by rw [PermsV, if_pos (by omega), Int.toNat_natCast]
  rw [hp] at ht
  have hb3 := hb2.trans (hb23.mono hb2.size)
  have htn := ht.row.n
  have hcnt := permsV_len6 (n := L.length) (by omega)
  obtain ⟨ts, ht⟩ := ht
  obtain ⟨os, ho2⟩ := ho2
  have hos : os = [] := by have := ho2.len; exact List.eq_nil_of_length_eq_zero (by simpa using this)
  subst hos
  refine spec_StackSources.L6_rule _ _ _ _ _ _ (I := fun s i w' => 0 ≤ i ∧ i ≤ (permsV L.length).length ∧ Below w.heap.size w w' ∧ OwnRows w' w2.heap.size t ts (permsV L.length) ∧ Apt s t ∧
      ∃ rs, OwnRows w' w.heap.size s rs (srcV L ((permsV L.length).take i.toNat)) ∧ (∀ r ∈ rs, ∃ j, j < i.toNat ∧ ts[j]? = some r)) (μ := fun _ i _ => ((permsV L.length).length - i).toNat)
    ⟨by omega, by omega, hb3, ht, Apt.of_lt (fun g hg => (ho2.out.lt g hg).2) (fun g hg => (ht.out.lt g hg).1), [], ho2.grow hb23, fun r hr => by simp at hr⟩ ?_
  rintro s i w' ⟨hi0, hi, hb, htw, hst, rs, hrs, hsub⟩
  rw [spec_StackSources.B6_s, htn]
  refine bif_dec (fun h3 => ?_) (fun h3 => ?_)
  · have hlt : i.toNat < (permsV L.length).length := by omega
    refine OwnRows.load htw hi0 (by omega) fun r hr hor => ?_
    rw [getD_SS hlt] at hor
    have hpl := permsV_len (List.getElem_mem hlt)
    have hsucc : (i + 1).toNat = i.toNat + 1 := by omega
    refine (c_l21Pass hor.row (by omega)).mono ?_
    rintro e w4 ⟨u, rfl, hu, hb4⟩
    refine ⟨u, rfl, ?_⟩
    refine Quiet.call1 (s := .bool) (c_l2Same hu.row (ha.grow (hb.trans (hb4.mono hb.size))) (by rw [passV_length]; omega)) ?_
    intro w5 hd5
    have hb45 : Below w'.heap.size w' w5 := hb4.trans (hd5.below _)
    have hb5 := hb.trans (hb45.mono hb.size)
    have hcn : (srcV L ((permsV L.length).take i.toNat)).length ≤ 46656 := Nat.le_trans (List.length_filter_le _ _) (by rw [List.length_take]; omega)
    refine bif_dec (fun h7 => ?_) (fun h7 => ?_)
    · refine OwnRows.load (htw.grow hb45) hi0 (by omega) fun r2 hr2 hor2 => ?_
      rw [hr] at hr2
      obtain rfl : r = r2 := by simpa using hr2
      refine append_sl (hrs.grow hb45) hb5.size ((hor.grow hb45).mono hb2.size) (fun x hx g e1 e2 => ?_) (by omega) ?_
      · obtain ⟨j, hj, hj2⟩ := hsub x hx
        exact htw.apt j i.toNat x r (by omega) hj2 hr g e1 e2
      intro s' w6 hs6 hg6 hn6
      refine ⟨s', i + 1, by rw [w64_succ hi0 (by omega)], ⟨by omega, by omega, hb5.grown hg6 hb5.size (fun g hg => ((hrs.grow hb45).out.lt g hg).1), ?_, hst.next hn6 (fun g hg => ((htw.grow hb45).out.lt g hg).2), rs ++ [r], ?_, fun x hx => ?_⟩, by omega⟩
      · refine (htw.grow hb45).keeps (keeps_grown hg6) (fun g e1 e2 => hst g e2 e1) (fun x hx g e1 e2 => ?_)
        obtain ⟨M, _, hom⟩ := (htw.grow hb45).own hx
        exact ((hrs.grow hb45).out.apt hom (by decide)) g e2 e1
      · rw [hsucc, List.take_succ_eq_append_getElem hlt, srcV_snoc, if_pos h7]
        exact hs6
      · rcases List.mem_append.1 hx with h8 | h8
        · obtain ⟨j, hj, hj2⟩ := hsub x h8
          exact ⟨j, by omega, hj2⟩
        · have : x = r := by simpa using h8
          subst this; exact ⟨i.toNat, by omega, hr⟩
    · refine ⟨s, i + 1, by rw [w64_succ hi0 (by omega)], ⟨by omega, by omega, hb5, htw.grow hb45, hst, rs, ?_, fun x hx => ?_⟩, by omega⟩
      · rw [hsucc, List.take_succ_eq_append_getElem hlt, srcV_snoc, if_neg h7]
        exact hrs.grow hb45
      · obtain ⟨j, hj, hj2⟩ := hsub x hx
        exact ⟨j, by omega, hj2⟩
  · rw [spec_StackSources.A6_0_s]
    rw [show i.toNat = (permsV L.length).length by omega, List.take_length] at hrs
    exact ⟨s, rfl, by rw [hs]; exact hrs.row, hb⟩

/-! ### CountTwoPasses -/
open Classical in
noncomputable def twoW (l : List (List Int)) : Nat := l.countP fun p => decide (tmV p ≤ 2)
theorem itW_idn (n : Nat) (hn : n ≤ 8) : passV (idn n) = idn n := by
  have h := it_last (isP_idn hn)
  rw [idn_length] at h
  -- the identity comes out as it is
  have : passV ([] ++ idn n) = passV [] ++ idn n := passV_tail n (idn n) (idn_length n) (fun x hx => by simp at hx) (by
    simp only [idn, List.pairwise_map]
    exact List.Pairwise.imp (fun h => by omega) List.pairwise_lt_range)
  simpa [passV, runW] using this
theorem two_iff {p : List Int} (h : IsP p) : tmV p ≤ 2 ↔ Rising (passV (passV p)) := by
  have stay : ∀ k, Rising (itW k p) → Rising (itW (k + 1) p) := fun k hk => by
    have hp := isP_it h k
    rw [hp.rising] at hk
    have hl := (itW_perm p k).length_eq
    rw [itW, hk, itW_idn _ (by rw [hl]; exact h.1)]
    exact rising_idn _
  obtain ⟨m, hm⟩ : ∃ m, Tm p m := by
    have hex : ∃ m, Rising (itW m p) := ⟨p.length, by rw [it_last h]; exact rising_idn _⟩
    have : ∀ n, (∃ m, m ≤ n ∧ Rising (itW m p)) → ∃ m, Tm p m := fun n => by
      induction n with
      | zero => rintro ⟨m, hm, hr⟩; exact ⟨0, by have : m = 0 := by omega
                                                 subst this; exact hr, fun j hj => by omega⟩
      | succ n ih =>
        rintro ⟨m, hm, hr⟩
        by_cases hc : ∃ m, m ≤ n ∧ Rising (itW m p)
        · exact ih hc
        · have : m = n + 1 := by
            rcases Nat.lt_or_ge n m with h1 | h1
            · omega
            · exact absurd ⟨m, h1, hr⟩ hc
          subst this
          exact ⟨n + 1, hr, fun j hj hj2 => hc ⟨j, by omega, hj2⟩⟩
    obtain ⟨m, hm⟩ := hex
    exact this m ⟨m, Nat.le_refl _, hm⟩
  rw [hm.eq]
  constructor
  · intro hle
    have h2 : ∀ k, m ≤ k → Rising (itW k p) := fun k hk => by
      induction k with
      | zero => have : m = 0 := by omega
                rw [← this]; exact hm.1
      | succ k ih =>
        rcases Nat.lt_or_ge k m with h1 | h1
        · have : m = k + 1 := by omega
          rw [← this]; exact hm.1
        · exact stay k (ih h1)
    exact h2 2 hle
  · intro hr
    rcases Nat.lt_or_ge 2 m with h1 | h1
    · exact absurd hr (hm.2 2 h1)
    · exact h1
noncomputable def CountTwoPassesV (n : Int) : Int := if 0 ≤ n ∧ n ≤ 6 then (twoW (permsV n.toNat) : Int) else -1
theorem c_isSix (n : Int) : Pure F.impl_isSix #[vI n] (.bool (decide (0 ≤ n) && decide (n ≤ 6))) := by
  intro w
  refine impl_isSix.calls n ?_
  rw [impl_isSix.E_s]
  refine bif_dec (fun h => ?_) (fun h => ?_)
  · exact ⟨by simp; omega, rfl⟩
  · exact ⟨by simp; omega, rfl⟩
theorem c_two {w : World} {a : Sl} {L : List Int} (ha : RowI w a L) (h : IsP L) :
    Calls PP F.impl_CountTwoPassesL1 #[a.v] w fun e w' => e = .returned (.bool (decide (tmV L ≤ 2))) ∧ Below w.heap.size w w' := by
  refine impl_CountTwoPassesL1.calls a ?_
  rw [impl_CountTwoPassesL1.E_s]
  refine (c_timesOf ha h).mono ?_
  rintro e w1 ⟨rfl, hb⟩
  exact ⟨_, rfl, congrArg (fun b => Ending.returned (Value.bool b)) (decide_eq_decide.2 (by omega)), hb⟩
theorem twoW_snoc (l : List (List Int)) (p : List Int) : twoW (l ++ [p]) = twoW l + if tmV p ≤ 2 then 1 else 0 := by
  unfold twoW
  rw [List.countP_append]
  congr 1
  rw [List.countP_singleton]
  simp
theorem bodied_two : bodied PP F.impl_CountTwoPassesL1 = true := by kernel_rfl
theorem c_counted {w : World} (n : Nat) (hn : n ≤ 6) :
    Calls PP F.impl_counted #[vI n, .func (.func F.impl_CountTwoPassesL1) #[] #[]] w fun e w' => e = .returned (vI (twoW (permsV n))) ∧ Below w.heap.size w w' := by
  refine impl_counted.calls n _ ?_
  rw [impl_counted.E_s]
  refine (c_perms n (by omega)).mono ?_
  rintro e w1 ⟨t, rfl, ht, hb1⟩
  refine ⟨t, rfl, ?_⟩
  have htn := ht.row.n
  have hcnt := permsV_len6 hn
  refine impl_counted.L3_rule _ _ _ _ _ _ _ (I := fun m i w' => 0 ≤ i ∧ i ≤ (permsV n).length ∧ Below w1.heap.size w1 w' ∧ m = twoW ((permsV n).take i.toNat)) (μ := fun _ i _ => ((permsV n).length - i).toNat)
    ⟨by omega, by omega, Below.refl _ _, rfl⟩ ?_
  rintro m i w' ⟨hi0, hi, hb, hm⟩
  rw [impl_counted.B3_s, htn]
  have hle : twoW ((permsV n).take i.toNat) ≤ 46656 := Nat.le_trans List.countP_le_length (by rw [List.length_take]; omega)
  refine bif_dec (fun h3 => ?_) (fun h3 => ?_)
  · have hlt : i.toNat < (permsV n).length := by omega
    refine RowSS.get (ht.row.grow hb) hi0 (by omega) fun r hr => ?_
    rw [getD_SS hlt] at hr
    refine ⟨_, #[], #[], rfl, bodied_two, ?_⟩
    refine (c_two hr (permsV_isP (by omega) (List.getElem_mem hlt))).mono ?_
    rintro e w2 ⟨rfl, hb2⟩
    refine ⟨_, rfl, ?_⟩
    have hb12 := hb.trans (hb2.mono hb.size)
    have hst : twoW ((permsV n).take (i + 1).toNat) = twoW ((permsV n).take i.toNat) + if tmV (permsV n)[i.toNat] ≤ 2 then 1 else 0 := by
      rw [show (i + 1).toNat = i.toNat + 1 by omega, List.take_succ_eq_append_getElem hlt, twoW_snoc]
    refine bif_dec (fun h4 => ?_) (fun h4 => ?_)
    · refine ⟨m + 1, i + 1, by rw [w64_succ hi0 (by omega), w64_succ (by omega) (by omega)], ⟨by omega, by omega, hb12, ?_⟩, by omega⟩
      rw [hst, if_pos h4]; omega
    · refine ⟨m, i + 1, by rw [w64_succ hi0 (by omega)], ⟨by omega, by omega, hb12, ?_⟩, by omega⟩
      rw [hst, if_neg h4]; omega
  · rw [impl_counted.A3_0_s]
    rw [show i.toNat = (permsV n).length by omega, List.take_length] at hm
    exact ⟨by rw [hm], hb1.trans (hb.mono hb1.size)⟩
theorem c_implCountTwoPasses {w : World} (n : Int) :
    Calls PP F.impl_CountTwoPasses #[vI n] w fun e w' => e = .returned (vI (CountTwoPassesV n)) ∧ Below w.heap.size w w' := by
  refine impl_CountTwoPasses.calls n ?_
  rw [impl_CountTwoPasses.E_s]
  refine Pure.pcall1 (s := .bool) (c_isSix n) ?_
  refine bif_intro (fun h => ?_) (fun h => ?_)
  · have h : ¬ (0 ≤ n ∧ n ≤ 6) := by simp at h; omega
    exact ⟨by rw [CountTwoPassesV, if_neg h], Below.refl _ _⟩
  · have h : 0 ≤ n ∧ n ≤ 6 := by simpa using h
    obtain ⟨m, rfl⟩ : ∃ m : Nat, n = m := ⟨n.toNat, by omega⟩
    refine (c_counted m (by omega)).mono ?_
    rintro e w1 ⟨rfl, hb⟩
    exact ⟨_, rfl, by rw [CountTwoPassesV, if_pos h, Int.toNat_natCast], hb⟩
theorem c_specCountTwoPasses {w : World} (n : Int) :
    Calls PP F.spec_CountTwoPasses #[vI n] w fun e w' => e = .returned (vI (CountTwoPassesV n)) ∧ Below w.heap.size w w' := by
  refine spec_CountTwoPasses.calls n ?_
  rw [spec_CountTwoPasses.E_s]
  refine Pure.pcall1 (s := .bool) (c_l1In n 0 6) ?_
  refine bif_intro (fun h => ?_) (fun h => ?_)
  · have h : ¬ (0 ≤ n ∧ n ≤ 6) := by simp at h; omega
    exact ⟨by rw [CountTwoPassesV, if_neg h], Below.refl _ _⟩
  have h : 0 ≤ n ∧ n ≤ 6 := by simpa using h
  obtain ⟨n, rfl⟩ : ∃ m : Nat, n = m := ⟨n.toNat, by omega⟩
  refine (c_PermsOf n).mono ?_
  rintro e w1 ⟨t, rfl, ht, hb1⟩
  refine ⟨t, rfl, ?_⟩
  have hp : PermsV (n : Int) = permsV n := by rw [PermsV, if_pos (by omega), Int.toNat_natCast]
  rw [hp] at ht
  have htn := ht.row.n
  have hcnt := permsV_len6 (n := n) (by omega)
  refine spec_CountTwoPasses.L6_rule _ _ _ _ _ (I := fun m i w' => 0 ≤ i ∧ i ≤ (permsV n).length ∧ Below w1.heap.size w1 w' ∧ m = twoW ((permsV n).take i.toNat)) (μ := fun _ i _ => ((permsV n).length - i).toNat)
    ⟨by omega, by omega, Below.refl _ _, rfl⟩ ?_
  rintro m i w' ⟨hi0, hi, hb, hm⟩
  rw [spec_CountTwoPasses.B6_s, htn]
  have hle : twoW ((permsV n).take i.toNat) ≤ 46656 := Nat.le_trans List.countP_le_length (by rw [List.length_take]; omega)
  refine bif_dec (fun h3 => ?_) (fun h3 => ?_)
  · have hlt : i.toNat < (permsV n).length := by omega
    refine RowSS.get (ht.row.grow hb) hi0 (by omega) fun r hr => ?_
    rw [getD_SS hlt] at hr
    have hP := permsV_isP (n := n) (by omega) (List.getElem_mem hlt)
    have h8 := hP.1
    refine (c_l21Pass hr (by omega)).mono ?_
    rintro e w2 ⟨u, rfl, hu, hb2⟩
    refine ⟨u, rfl, ?_⟩
    refine (c_l21Pass hu.row (by rw [passV_length]; omega)).mono ?_
    rintro e w3 ⟨v, rfl, hv, hb3⟩
    refine ⟨v, rfl, ?_⟩
    refine (c_l13Straight hv.row (by rw [passV_length, passV_length]; omega)).mono ?_
    rintro e w4 ⟨rfl, hb4⟩
    refine ⟨_, rfl, ?_⟩
    refine Pure.pcall1 (s := .int .i64) (c_l1Bit _) ?_
    have hb14 := ((hb.trans (hb2.mono hb.size)).trans (hb3.mono (Nat.le_trans hb.size hb2.size))).trans (hb4.mono (Nat.le_trans hb.size (Nat.le_trans hb2.size hb3.size)))
    have hst : twoW ((permsV n).take (i + 1).toNat) = twoW ((permsV n).take i.toNat) + if tmV (permsV n)[i.toNat] ≤ 2 then 1 else 0 := by
      rw [show (i + 1).toNat = i.toNat + 1 by omega, List.take_succ_eq_append_getElem hlt, twoW_snoc]
    have hiff : tmV (permsV n)[i.toNat] ≤ 2 ↔ passV (passV (permsV n)[i.toNat]) = idn (passV (passV (permsV n)[i.toNat])).length := by
      rw [two_iff hP, (isP_pass (isP_pass hP)).rising]
    refine ⟨m + if tmV (permsV n)[i.toNat] ≤ 2 then 1 else 0, i + 1, ?_, ⟨by omega, by omega, hb14, by rw [hst, hm]; split <;> omega⟩, by omega⟩
    rw [w64_succ hi0 (by omega)]
    congr 1
    by_cases h5 : tmV (permsV n)[i.toNat] ≤ 2
    · rw [if_pos h5]
      have h6 := hiff.1 h5
      rw [if_pos (by simpa using h6), w64_succ (by omega) (by omega)]
    · rw [if_neg h5]
      have h6 : ¬ (passV (passV (permsV n)[i.toNat]) = idn (passV (passV (permsV n)[i.toNat])).length) := fun e => h5 (hiff.2 e)
      rw [if_neg (by simpa using h6), w64_id (by omega) (by omega)]
  · rw [spec_CountTwoPasses.A6_0_s]
    rw [show i.toNat = (permsV n).length by omega, List.take_length] at hm
    exact ⟨by rw [CountTwoPassesV, if_pos h, Int.toNat_natCast, hm], hb1.trans (hb.mono hb1.size)⟩

theorem lawC_FnExactStackSources (a0 : Sl) (L0 : List Int) (w : World) (ha0 : RowI w a0 L0) (hbd0 : ∀ x ∈ L0, -9223372036854775808 ≤ x ∧ x ≤ 9223372036854775807) :
    Calls PP F.laws_FnExactStackSources #[a0.v] w fun e w' => e = .returned (.bool true) ∧ Below w.heap.size w w' := by
  have han0 : a0.n = L0.length := by have := ha0.n; simpa using this
  refine laws_FnExactStackSources.calls a0 ?_
  rw [laws_FnExactStackSources.E_s]
  have b_0_0 : Below w.heap.size w w := Below.refl _ _
  refine bif_dec (fun h => ⟨rfl, b_0_0⟩) (fun h0s => ?_)
  have hL0 : L0.length < 2 ^ 38 := by omega
  refine (c_toIntS (ha0.grow b_0_0) (by omega)).mono ?_
  rintro e w1 ⟨xw0, rfl, hxw0, s_0⟩
  refine ⟨xw0, rfl, ?_⟩
  have b_0_1 := b_0_0.trans (s_0.mono b_0_0.size)
  have b_1_1 : Below w1.heap.size w1 w1 := Below.refl _ _
  refine (c_specStackSources (hxw0.row.grow b_1_1) hL0).mono ?_
  rintro e w2 ⟨w0, rfl, hw0, s_1⟩
  refine ⟨w0, rfl, ?_⟩
  have b_0_2 := b_0_1.trans (s_1.mono b_0_1.size)
  have b_1_2 := b_1_1.trans (s_1.mono b_1_1.size)
  have b_2_2 : Below w2.heap.size w2 w2 := Below.refl _ _
  refine (c_toIntS (ha0.grow b_0_2) (by omega)).mono ?_
  rintro e w3 ⟨xx0, rfl, hxx0, s_2⟩
  refine ⟨xx0, rfl, ?_⟩
  have b_0_3 := b_0_2.trans (s_2.mono b_0_2.size)
  have b_1_3 := b_1_2.trans (s_2.mono b_1_2.size)
  have b_2_3 := b_2_2.trans (s_2.mono b_2_2.size)
  have b_3_3 : Below w3.heap.size w3 w3 := Below.refl _ _
  refine (c_implStackSources (hxx0.row.grow b_3_3) hL0).mono ?_
  rintro e w4 ⟨g0, rfl, ⟨rsg0, hg0⟩, s_3⟩
  refine ⟨g0, rfl, ?_⟩
  have b_0_4 := b_0_3.trans (s_3.mono b_0_3.size)
  have b_1_4 := b_1_3.trans (s_3.mono b_1_3.size)
  have b_2_4 := b_2_3.trans (s_3.mono b_2_3.size)
  have b_3_4 := b_3_3.trans (s_3.mono b_3_3.size)
  have b_4_4 : Below w4.heap.size w4 w4 := Below.refl _ _
  have hv0 := StackSourcesV_len L0
  refine Quiet.call1 (s := .bool) (c_eqIntSS (hg0.row.grow b_4_4) (hw0.grow b_2_4) (by omega) (by omega)) ?_
  intro w5 hd5
  have s_4 : Below w4.heap.size w4 w5 := hd5.below _
  have b_0_5 := b_0_4.trans (s_4.mono b_0_4.size)
  have b_1_5 := b_1_4.trans (s_4.mono b_1_4.size)
  have b_2_5 := b_2_4.trans (s_4.mono b_2_4.size)
  have b_3_5 := b_3_4.trans (s_4.mono b_3_4.size)
  have b_4_5 := b_4_4.trans (s_4.mono b_4_4.size)
  refine bif_f (by simp) ?_
  have b_5_5 : Below w5.heap.size w5 w5 := Below.refl _ _
  refine (c_toIntS (ha0.grow b_0_5) (by omega)).mono ?_
  rintro e w6 ⟨y0, rfl, hy0, s_5⟩
  refine ⟨y0, rfl, ?_⟩
  have b_0_6 := b_0_5.trans (s_5.mono b_0_5.size)
  have b_1_6 := b_1_5.trans (s_5.mono b_1_5.size)
  have b_2_6 := b_2_5.trans (s_5.mono b_2_5.size)
  have b_3_6 := b_3_5.trans (s_5.mono b_3_5.size)
  have b_4_6 := b_4_5.trans (s_5.mono b_4_5.size)
  have b_5_6 := b_5_5.trans (s_5.mono b_5_5.size)
  refine Quiet.call1 (s := .bool) (c_eqIntS (hxx0.row.grow b_3_6) hy0.row (by omega)) ?_
  intro w7 hd7
  have s_6 : Below w6.heap.size w6 w7 := hd7.below _
  have b_0_7 := b_0_6.trans (s_6.mono b_0_6.size)
  have b_1_7 := b_1_6.trans (s_6.mono b_1_6.size)
  have b_2_7 := b_2_6.trans (s_6.mono b_2_6.size)
  have b_3_7 := b_3_6.trans (s_6.mono b_3_6.size)
  have b_4_7 := b_4_6.trans (s_6.mono b_4_6.size)
  have b_5_7 := b_5_6.trans (s_6.mono b_5_6.size)
  refine bif_f (by simp) ?_
  have hxx0m := hxx0.grow b_3_7
  have hg0m := hg0.grow b_4_7
  refine (c_markIntS hxx0m (by omega) (k := 1) (by omega) (by omega)).mono ?_
  rintro e w8 ⟨rfl, _, hg_8, hz_8⟩
  have ks_8 := keeps_grown hg_8
  refine ⟨_, rfl, ?_⟩
  have lo_8 : ∀ g, xx0.blk = some g → w2.heap.size ≤ g := (fun g e => (hxx0.lt g e).1)
  have hi_8 : ∀ g, xx0.blk = some g → g < w3.heap.size := (fun g e => (hxx0.lt g e).2)
  have b_0_8 := b_0_7.trans (ks_8.below (B := w.heap.size) (fun g e => Nat.le_trans b_0_2.size (lo_8 g e)) b_0_7.size)
  have b_1_8 := b_1_7.trans (ks_8.below (B := w1.heap.size) (fun g e => Nat.le_trans b_1_2.size (lo_8 g e)) b_1_7.size)
  have b_2_8 := b_2_7.trans (ks_8.below (B := w2.heap.size) (fun g e => Nat.le_trans b_2_2.size (lo_8 g e)) b_2_7.size)
  have hg0m := hg0m.keepsLt ks_8 (fun g e => by have := hi_8 g e; have := b_3_3.size; omega)
  refine bif_dec (fun h => by omega) (fun h => ?_)
  have b_8_8 : Below w8.heap.size w8 w8 := Below.refl _ _
  have hg0 := hg0m
  refine Quiet.call1 (s := .bool) (c_eqIntSS (hg0.row.grow b_8_8) (hw0.grow b_2_8) (by omega) (by omega)) ?_
  intro w9 hd9
  have s_8 : Below w8.heap.size w8 w9 := hd9.below _
  have b_0_9 := b_0_8.trans (s_8.mono b_0_8.size)
  have b_1_9 := b_1_8.trans (s_8.mono b_1_8.size)
  have b_2_9 := b_2_8.trans (s_8.mono b_2_8.size)
  have b_8_9 := b_8_8.trans (s_8.mono b_8_8.size)
  refine bif_f (by simp) ?_
  have hg0p := hg0.grow b_8_9
  have b_9_9 : Below w9.heap.size w9 w9 := Below.refl _ _
  refine (c_markIntSS hg0p (by omega) (by omega) (k := 1) (by omega) (by omega)).mono ?_
  rintro e w10 ⟨rfl, hq0, ks_10, hz_10⟩
  refine ⟨_, rfl, ?_⟩
  have lo_10 : ∀ g, (∃ r ∈ rsg0, r.blk = some g) → w3.heap.size ≤ g := (fun g e => by obtain ⟨r, hr, e⟩ := e; exact (hg0p.lt hr e).1)
  have b_0_10 := b_0_9.trans (ks_10.below (B := w.heap.size) (fun g e => Nat.le_trans b_0_3.size (lo_10 g e)) b_0_9.size)
  have b_1_10 := b_1_9.trans (ks_10.below (B := w1.heap.size) (fun g e => Nat.le_trans b_1_3.size (lo_10 g e)) b_1_9.size)
  have b_2_10 := b_2_9.trans (ks_10.below (B := w2.heap.size) (fun g e => Nat.le_trans b_2_3.size (lo_10 g e)) b_2_9.size)
  have b_10_10 : Below w10.heap.size w10 w10 := Below.refl _ _
  refine Quiet.call1 (s := .int .i64) (c_heldIntSS (LL := StackSourcesV L0) (hq0.row.grow b_10_10) (by omega) (by omega) (by omega) (by omega)) ?_
  intro w11 hd11
  have s_10 : Below w10.heap.size w10 w11 := hd11.below _
  have b_0_11 := b_0_10.trans (s_10.mono b_0_10.size)
  have b_1_11 := b_1_10.trans (s_10.mono b_1_10.size)
  have b_2_11 := b_2_10.trans (s_10.mono b_2_10.size)
  have b_10_11 := b_10_10.trans (s_10.mono b_10_10.size)
  refine bif_dec (fun h => by omega) (fun h => ?_)
  refine bif_f (by simp) ?_
  have b_11_11 : Below w11.heap.size w11 w11 := Below.refl _ _
  refine (c_toIntS (ha0.grow b_0_11) (by omega)).mono ?_
  rintro e w12 ⟨xv0, rfl, hxv0, s_11⟩
  refine ⟨xv0, rfl, ?_⟩
  have b_0_12 := b_0_11.trans (s_11.mono b_0_11.size)
  have b_1_12 := b_1_11.trans (s_11.mono b_1_11.size)
  have b_2_12 := b_2_11.trans (s_11.mono b_2_11.size)
  have b_10_12 := b_10_11.trans (s_11.mono b_10_11.size)
  have b_11_12 := b_11_11.trans (s_11.mono b_11_11.size)
  have b_12_12 : Below w12.heap.size w12 w12 := Below.refl _ _
  refine (c_implStackSources (hxv0.row.grow b_12_12) hL0).mono ?_
  rintro e w13 ⟨h0, rfl, ⟨rsh0, hh0⟩, s_12⟩
  refine ⟨h0, rfl, ?_⟩
  have b_0_13 := b_0_12.trans (s_12.mono b_0_12.size)
  have b_1_13 := b_1_12.trans (s_12.mono b_1_12.size)
  have b_2_13 := b_2_12.trans (s_12.mono b_2_12.size)
  have b_10_13 := b_10_12.trans (s_12.mono b_10_12.size)
  have b_11_13 := b_11_12.trans (s_12.mono b_11_12.size)
  have b_12_13 := b_12_12.trans (s_12.mono b_12_12.size)
  have b_13_13 : Below w13.heap.size w13 w13 := Below.refl _ _
  refine Quiet.call1 (s := .bool) (c_eqIntSS (hh0.row.grow b_13_13) (hw0.grow b_2_13) (by omega) (by omega)) ?_
  intro w14 hd14
  have s_13 : Below w13.heap.size w13 w14 := hd14.below _
  have b_0_14 := b_0_13.trans (s_13.mono b_0_13.size)
  have b_1_14 := b_1_13.trans (s_13.mono b_1_13.size)
  have b_2_14 := b_2_13.trans (s_13.mono b_2_13.size)
  have b_10_14 := b_10_13.trans (s_13.mono b_10_13.size)
  have b_11_14 := b_11_13.trans (s_13.mono b_11_13.size)
  have b_12_14 := b_12_13.trans (s_13.mono b_12_13.size)
  have b_13_14 := b_13_13.trans (s_13.mono b_13_13.size)
  refine bif_f (by simp) ?_
  refine Quiet.call1 (s := .int .i64) (c_heldIntSS (LL := StackSourcesV L0) (hq0.row.grow b_10_14) (by omega) (by omega) (by omega) (by omega)) ?_
  intro w15 hd15
  have s_14 : Below w14.heap.size w14 w15 := hd15.below _
  have b_0_15 := b_0_14.trans (s_14.mono b_0_14.size)
  have b_1_15 := b_1_14.trans (s_14.mono b_1_14.size)
  have b_2_15 := b_2_14.trans (s_14.mono b_2_14.size)
  have b_10_15 := b_10_14.trans (s_14.mono b_10_14.size)
  have b_11_15 := b_11_14.trans (s_14.mono b_11_14.size)
  have b_12_15 := b_12_14.trans (s_14.mono b_12_14.size)
  have b_13_15 := b_13_14.trans (s_14.mono b_13_14.size)
  refine bif_dec (fun h => by omega) (fun h => ?_)
  refine bif_f (by simp) ?_
  exact ⟨rfl, b_0_15⟩

theorem lawC_FnExactCountTwoPasses (k0 : Int) (hk0 : -9223372036854775808 ≤ k0 ∧ k0 ≤ 9223372036854775807) (w : World) :
    Calls PP F.laws_FnExactCountTwoPasses #[vI k0] w fun e w' => e = .returned (.bool true) ∧ Below w.heap.size w w' := by
  refine laws_FnExactCountTwoPasses.calls k0 ?_
  rw [laws_FnExactCountTwoPasses.E_s]
  have b_0_0 : Below w.heap.size w w := Below.refl _ _
  refine (c_specCountTwoPasses k0).mono ?_
  rintro e w1 ⟨rfl, s_0⟩
  refine ⟨_, rfl, ?_⟩
  have b_0_1 := b_0_0.trans (s_0.mono b_0_0.size)
  have b_1_1 : Below w1.heap.size w1 w1 := Below.refl _ _
  refine (c_implCountTwoPasses k0).mono ?_
  rintro e w2 ⟨rfl, s_1⟩
  refine ⟨_, rfl, ?_⟩
  have b_0_2 := b_0_1.trans (s_1.mono b_0_1.size)
  have b_1_2 := b_1_1.trans (s_1.mono b_1_1.size)
  have b_2_2 : Below w2.heap.size w2 w2 := Below.refl _ _
  refine bif_f (by simp) ?_
  exact ⟨rfl, b_0_2⟩

end Go.Proofs.Ytliabbhfagfagaa
