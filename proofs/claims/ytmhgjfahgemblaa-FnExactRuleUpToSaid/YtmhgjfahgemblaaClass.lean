/- The permutations of a class: both texts. -/
import Derived.Test.YtmhgjfahgemblaaCodeCl2
import Derived.Test.YtmhgjfahgemblaaBasis
import Derived.Test.YtmhgjfahgemblaaPerms
import Derived.Test.YtmhgjfahgemblaaClassMath
namespace Go.Proofs.Ytmhgjfahgemblaa
open Go Go.RowKit
set_option maxRecDepth 100000

theorem BasisOk.len {LL : List (List Int)} (h : BasisOk LL) : ∀ q ∈ LL, q.length ≤ 8 := fun q hq => (h.isP hq).1
theorem c_isSix' (n : Int) : Pure F.impl_isSix #[vI n] (.bool (decide (0 ≤ n) && decide (n ≤ 6))) := by
  intro w
  refine impl_isSix.calls n ?_
  rw [impl_isSix.E_s]
  refine bif_dec (fun h => ?_) (fun h => ?_)
  · exact ⟨by simp; omega, rfl⟩
  · exact ⟨by simp; omega, rfl⟩
theorem c_class {w : World} {l : Sl} {LL : List (List Int)} (hl : RowSS w l LL) (hB : BasisOk LL) (n : Nat) (hn : n ≤ 6) :
    Calls PP F.impl_class #[l.v, vI n] w fun e w' => ∃ s : Sl, e = .returned s.v ∧ OwnSS w' w.heap.size s (classV LL n) ∧ Below w.heap.size w w' := by
  refine impl_class.calls l n ?_
  rw [impl_class.E_s]
  refine lit0 oneSint (B := w.heap.size) (Nat.le_refl _) ?_
  intro o0 w2 ho0 hg2 _
  have hb2 := below_of_grow hg2
  refine (c_perms n (by omega)).mono ?_
  rintro e w3 ⟨t, rfl, ht, hb23⟩
  refine ⟨t, rfl, ?_⟩
  have hb3 := hb2.trans (hb23.mono hb2.size)
  have htn := ht.row.n
  have hcnt := perms_len6 hn
  have hl8 := hB.1
  obtain ⟨ts, ht⟩ := ht
  refine impl_class.L3_rule _ _ _ _ _ _ _ (I := fun s i w' => 0 ≤ i ∧ i ≤ (permsV n).length ∧ Below w.heap.size w w' ∧ OwnRows w' w2.heap.size t ts (permsV n) ∧ Apt s t ∧
      ∃ rs, OwnRows w' w.heap.size s rs (classT LL ((permsV n).take i.toNat)) ∧ (∀ r ∈ rs, ∃ j, j < i.toNat ∧ ts[j]? = some r)) (μ := fun _ i _ => ((permsV n).length - i).toNat)
    ⟨by omega, by omega, hb3, ht, Apt.of_lt (fun g hg => (ho0.lt g hg).2) (fun g hg => (ht.out.lt g hg).1), [], (OwnRows.nil ho0).grow hb23, fun r hr => by simp at hr⟩ ?_
  rintro s i w' ⟨hi0, hi, hb, htw, hst, rs, hrs, hsub⟩
  rw [impl_class.B3_s, htn]
  refine bif_dec (fun h3 => ?_) (fun h3 => ?_)
  · have hlt : i.toNat < (permsV n).length := by omega
    refine OwnRows.load htw hi0 (by omega) fun r hr hor => ?_
    rw [getD_SS hlt] at hor
    have hpl := permsV_len (List.getElem_mem hlt)
    have hsucc : (i + 1).toNat = i.toNat + 1 := by omega
    refine (c_avoids (hl.grow hb) hor.row (by omega) (by omega) (fun q hq => by have := hB.len q hq; omega)).mono ?_
    rintro e w5 ⟨rfl, hb45⟩
    refine ⟨_, rfl, ?_⟩
    have hb5 := hb.trans (hb45.mono hb.size)
    have hcn : (classT LL ((permsV n).take i.toNat)).length ≤ 46656 := Nat.le_trans (List.length_filter_le _ _) (by rw [List.length_take]; omega)
    refine bif_intro (fun h7 => ?_) (fun h7 => ?_)
    · refine append_sl (hrs.grow hb45) hb5.size ((hor.grow hb45).mono hb2.size) (fun x hx g e1 e2 => ?_) (by omega) ?_
      · obtain ⟨j, hj, hj2⟩ := hsub x hx
        exact htw.apt j i.toNat x r (by omega) hj2 hr g e1 e2
      intro s' w6 hs6 hg6 hn6
      refine ⟨s', i + 1, by rw [w64_succ hi0 (by omega)], ⟨by omega, by omega, hb5.grown hg6 hb5.size (fun g hg => ((hrs.grow hb45).out.lt g hg).1), ?_, hst.next hn6 (fun g hg => ((htw.grow hb45).out.lt g hg).2), rs ++ [r], ?_, fun x hx => ?_⟩, by omega⟩
      · refine (htw.grow hb45).keeps (keeps_grown hg6) (fun g e1 e2 => hst g e2 e1) (fun x hx g e1 e2 => ?_)
        obtain ⟨M, _, hom⟩ := (htw.grow hb45).own hx
        exact ((hrs.grow hb45).out.apt hom (by decide)) g e2 e1
      · rw [hsucc, List.take_succ_eq_append_getElem hlt, classT_snoc, if_pos h7]
        exact hs6
      · rcases List.mem_append.1 hx with h8 | h8
        · obtain ⟨j, hj, hj2⟩ := hsub x h8
          exact ⟨j, by omega, hj2⟩
        · have : x = r := by simpa using h8
          subst this; exact ⟨i.toNat, by omega, hr⟩
    · refine ⟨s, i + 1, by rw [w64_succ hi0 (by omega)], ⟨by omega, by omega, hb5, htw.grow hb45, hst, rs, ?_, fun x hx => ?_⟩, by omega⟩
      · rw [hsucc, List.take_succ_eq_append_getElem hlt, classT_snoc, if_neg (by simp [h7])]
        exact hrs.grow hb45
      · obtain ⟨j, hj, hj2⟩ := hsub x hx
        exact ⟨j, by omega, hj2⟩
  · rw [impl_class.A3_0_s]
    rw [show i.toNat = (permsV n).length by omega, List.take_length] at hrs
    exact ⟨s, rfl, ⟨rs, hrs⟩, hb⟩
open Classical in
noncomputable def ClassOfV (LL : List (List Int)) (n : Int) : List (List Int) := if BasisOk LL ∧ 0 ≤ n ∧ n ≤ 6 then classV LL n.toNat else []
open Classical in
theorem c_ClassOf {w : World} {l : Sl} {LL : List (List Int)} (hl : RowSS w l LL) (hL : LL.length < 2^38) (ht0 : tot LL < 2^37) (n : Int) :
    Calls PP F.spec_ClassOf #[l.v, vI n] w fun e w' => ∃ s : Sl, e = .returned s.v ∧ OwnSS w' w.heap.size s (ClassOfV LL n) ∧ Below w.heap.size w w' := by
  refine spec_ClassOf.calls l n ?_
  rw [spec_ClassOf.E_s]
  refine lit0 oneSint (B := w.heap.size) (Nat.le_refl _) ?_
  intro o0 w1 ho0 hg1 _
  have hb1 := below_of_grow hg1
  refine (c_specIsBasis (hl.grow hb1) hL ht0).mono ?_
  rintro e w2 ⟨rfl, hb12⟩
  refine ⟨_, rfl, ?_⟩
  have hb2 := hb1.trans (hb12.mono hb1.size)
  have ho2 := (OwnRows.nil ho0).grow hb12
  refine bif_intro (fun h => ?_) (fun h => ?_)
  · have h : ¬ BasisOk LL := by simpa [IsBasisV] using h
    exact ⟨o0, rfl, by rw [ClassOfV, if_neg (fun hh => h hh.1)]; exact ⟨_, ho2⟩, hb2⟩
  have hB : BasisOk LL := by simpa [IsBasisV] using h
  refine Pure.pcall1 (s := .bool) (c_l1In n 0 6) ?_
  refine bif_intro (fun h => ?_) (fun h => ?_)
  · have h : ¬ (0 ≤ n ∧ n ≤ 6) := by simp at h; omega
    exact ⟨o0, rfl, by rw [ClassOfV, if_neg (fun hh => h hh.2)]; exact ⟨_, ho2⟩, hb2⟩
  have hn6 : 0 ≤ n ∧ n ≤ 6 := by simpa using h
  have hV : ClassOfV LL n = classV LL n.toNat := by rw [ClassOfV, if_pos ⟨hB, hn6⟩]
  obtain ⟨n, rfl⟩ : ∃ m : Nat, n = m := ⟨n.toNat, by omega⟩
  rw [Int.toNat_natCast] at hV
  refine (c_PermsOf n).mono ?_
  rintro e w3 ⟨t, rfl, ht, hb23⟩
  refine ⟨t, rfl, ?_⟩
  have hp : PermsV (n : Int) = permsV n := by rw [PermsV, if_pos (by omega), Int.toNat_natCast]
  rw [hp] at ht
  have hb3 := hb2.trans (hb23.mono hb2.size)
  have htn := ht.row.n
  have hcnt := perms_len6 (n := n) (by omega)
  have hl8 := hB.1
  obtain ⟨ts, ht⟩ := ht
  refine spec_ClassOf.L6_rule _ _ _ _ _ _ (I := fun s i w' => 0 ≤ i ∧ i ≤ (permsV n).length ∧ Below w.heap.size w w' ∧ OwnRows w' w2.heap.size t ts (permsV n) ∧ Apt s t ∧
      ∃ rs, OwnRows w' w.heap.size s rs (classT LL ((permsV n).take i.toNat)) ∧ (∀ r ∈ rs, ∃ j, j < i.toNat ∧ ts[j]? = some r)) (μ := fun _ i _ => ((permsV n).length - i).toNat)
    ⟨by omega, by omega, hb3, ht, Apt.of_lt (fun g hg => (ho2.out.lt g hg).2) (fun g hg => (ht.out.lt g hg).1), [], ho2.grow hb23, fun r hr => by simp at hr⟩ ?_
  rintro s i w' ⟨hi0, hi, hb, htw, hst, rs, hrs, hsub⟩
  rw [spec_ClassOf.B6_s, htn]
  refine bif_dec (fun h3 => ?_) (fun h3 => ?_)
  · have hlt : i.toNat < (permsV n).length := by omega
    refine OwnRows.load htw hi0 (by omega) fun r hr hor => ?_
    rw [getD_SS hlt] at hor
    have hpl := permsV_len (List.getElem_mem hlt)
    have hsucc : (i + 1).toNat = i.toNat + 1 := by omega
    refine (c_l12Avoids (hl.grow hb) hor.row (by omega) (by omega) hB.len).mono ?_
    rintro e w5 ⟨rfl, hb45⟩
    refine ⟨_, rfl, ?_⟩
    have hb5 := hb.trans (hb45.mono hb.size)
    have hcn : (classT LL ((permsV n).take i.toNat)).length ≤ 46656 := Nat.le_trans (List.length_filter_le _ _) (by rw [List.length_take]; omega)
    refine bif_intro (fun h7 => ?_) (fun h7 => ?_)
    · refine OwnRows.load (htw.grow hb45) hi0 (by omega) fun r2 hr2 hor2 => ?_
      rw [hr] at hr2
      obtain rfl : r = r2 := by simpa using hr2
      refine append_sl (hrs.grow hb45) hb5.size ((hor.grow hb45).mono hb2.size) (fun x hx g e1 e2 => ?_) (by omega) ?_
      · obtain ⟨j, hj, hj2⟩ := hsub x hx
        exact htw.apt j i.toNat x r (by omega) hj2 hr g e1 e2
      intro s' w6 hs6 hg6 hn6
      refine ⟨s', i + 1, by rw [w64_succ hi0 (by omega)], ⟨by omega, by omega, hb5.grown hg6 hb5.size (fun g hg => ((hrs.grow hb45).out.lt g hg).1), ?_, hst.next hn6 (fun g hg => ((htw.grow hb45).out.lt g hg).2), rs ++ [r], ?_, fun x hx => ?_⟩, by omega⟩
      · refine (htw.grow hb45).keeps (keeps_grown hg6) (fun g e1 e2 => hst g e2 e1) (fun x hx g e1 e2 => ?_)
        obtain ⟨M, _, hom⟩ := (htw.grow hb45).own hx
        exact ((hrs.grow hb45).out.apt hom (by decide)) g e2 e1
      · rw [hsucc, List.take_succ_eq_append_getElem hlt, classT_snoc, if_pos h7]
        exact hs6
      · rcases List.mem_append.1 hx with h8 | h8
        · obtain ⟨j, hj, hj2⟩ := hsub x h8
          exact ⟨j, by omega, hj2⟩
        · have : x = r := by simpa using h8
          subst this; exact ⟨i.toNat, by omega, hr⟩
    · refine ⟨s, i + 1, by rw [w64_succ hi0 (by omega)], ⟨by omega, by omega, hb5, htw.grow hb45, hst, rs, ?_, fun x hx => ?_⟩, by omega⟩
      · rw [hsucc, List.take_succ_eq_append_getElem hlt, classT_snoc, if_neg (by simp [h7])]
        exact hrs.grow hb45
      · obtain ⟨j, hj, hj2⟩ := hsub x hx
        exact ⟨j, by omega, hj2⟩
  · rw [spec_ClassOf.A6_0_s]
    rw [show i.toNat = (permsV n).length by omega, List.take_length] at hrs
    exact ⟨s, rfl, by rw [hV]; exact ⟨rs, hrs⟩, hb⟩
end Go.Proofs.Ytmhgjfahgemblaa
