/- Classes length by length: the permutations of a class arise from the shorter ones by a last value. -/
import Derived.Test.YtmhgjfahgemblaaClassMath
namespace Go.Proofs.Ytmhgjfahgemblaa
open Go
set_option maxRecDepth 100000

def bump (v x : Int) : Int := if x ≥ v then x + 1 else x
def unb (v x : Int) : Int := if x > v then x - 1 else x
def insV (q : List Int) (v : Int) : List Int := q.map (bump v) ++ [v]
def nextV (LL : List (List Int)) (k : Nat) (last : List (List Int)) : List (List Int) := last.flatMap fun q => ((idn k).map (insV q)).filter (avoidsV LL)
def l12V (LL : List (List Int)) : Nat → List (List Int)
  | 0 => [[]]
  | k + 1 => nextV LL (k + 1) (l12V LL k)
theorem bump_lt (v x y : Int) : bump v x < bump v y ↔ x < y := by unfold bump; split <;> split <;> omega
theorem bump_inj (v x y : Int) (h : bump v x = bump v y) : x = y := by unfold bump at h; split at h <;> split at h <;> omega
theorem bump_ne (v x : Int) : bump v x ≠ v := by unfold bump; split <;> omega
theorem bump_unb (v x : Int) (h : x ≠ v) : bump v (unb v x) = x := by unfold bump unb; split <;> split <;> omega
theorem insV_length (q : List Int) (v : Int) : (insV q v).length = q.length + 1 := by simp [insV]
theorem insV_getD (q : List Int) (v : Int) {i : Nat} (h : i < q.length) : (insV q v).getD i 0 = bump v (q.getD i 0) := by
  rw [getD_lt h]
  simp [insV, List.getD_eq_getElem?_getD, List.getElem?_append, h]
theorem insV_inj {q q' : List Int} {v v' : Int} (h : insV q v = insV q' v') : q = q' ∧ v = v' := by
  obtain ⟨h1, h2⟩ := List.append_inj' h rfl
  have hv : v = v' := by simpa using h2
  subst hv
  exact ⟨(List.map_inj_right (fun x y => bump_inj v x y)).1 h1, rfl⟩
theorem hasB_ins {q Q : List Int} {v : Int} : ∀ (m : Nat) (h : List Int), Places q h → hasB q Q m h = true → hasB (insV q v) Q m h = true
  | 0, _, _, _ => rfl
  | m + 1, h, hh, hb => by
    obtain ⟨x, h1, h2, h3, h4⟩ := hasB_succ.1 hb
    have h0 := hh.last
    refine hasB_succ.2 ⟨x, h1, by rw [insV_length]; omega, ?_, hasB_ins m _ (hh.snoc (by omega) h2) h4⟩
    rw [fitsB_iff] at h3 ⊢
    intro k hk
    have h5 := h3 k hk
    have h6 := hh _ (List.getElem_mem hk)
    unfold fitsAt at h5 ⊢
    rw [getD_lt hk] at h5 ⊢
    rw [insV_getD _ _ (by omega), insV_getD _ _ (by omega)]
    rw [← h5]
    congr 1
    exact decide_eq_decide.2 (bump_lt _ _ _)
theorem avoids_ins {LL : List (List Int)} {q : List Int} {v : Int} (h : avoidsV LL (insV q v) = true) : avoidsV LL q = true := by
  unfold avoidsV at h ⊢
  rw [Bool.not_eq_true'] at h ⊢
  rw [List.any_eq_false] at h ⊢
  intro Q hQ hq
  exact h Q hQ (hasB_ins _ _ (Places.nil q) hq)
theorem insV_perm {q : List Int} {v : Int} {k : Nat} (hq : q.Perm (idn k)) (hv : v ∈ idn (k + 1)) : (insV q v).Perm (idn (k + 1)) := by
  have hv := mem_idn.1 hv
  have hn : q.Nodup := hq.nodup_iff.2 (idn_nodup k)
  have hl : q.length = k := by rw [hq.length_eq, idn_length]
  refine perm_of_nodup ?_ (fun x hx => ?_) (by rw [insV_length, hl])
  · rw [insV, List.nodup_append]
    refine ⟨?_, by simp, fun a ha b hb => ?_⟩
    · exact List.pairwise_map.2 (hn.imp fun hab e => hab (bump_inj _ _ _ e))
    · obtain ⟨y, _, rfl⟩ := List.mem_map.1 ha
      have : b = v := by simpa using hb
      rw [this]; exact bump_ne v y
  · rw [insV] at hx
    rcases List.mem_append.1 hx with h | h
    · obtain ⟨y, hy, rfl⟩ := List.mem_map.1 h
      have := mem_idn.1 (hq.mem_iff.1 hy)
      unfold bump; split <;> omega
    · have : x = v := by simpa using h
      omega
theorem insV_of_perm {p : List Int} {k : Nat} (hp : p.Perm (idn (k + 1))) : ∃ q v, q.Perm (idn k) ∧ v ∈ idn (k + 1) ∧ p = insV q v := by
  have hl : p.length = k + 1 := by rw [hp.length_eq, idn_length]
  obtain ⟨d, v, rfl⟩ : ∃ d v, p = d ++ [v] := ⟨p.dropLast, p.getLast (by rintro rfl; simp at hl), (List.dropLast_concat_getLast _).symm⟩
  have hn : (d ++ [v]).Nodup := hp.nodup_iff.2 (idn_nodup _)
  rw [List.nodup_append] at hn
  obtain ⟨hn1, _, hn2⟩ := hn
  have hd : ∀ x ∈ d, x ≠ v := fun x hx => hn2 x hx v (by simp)
  have hm : ∀ x ∈ d ++ [v], 1 ≤ x ∧ x ≤ ((k + 1 : Nat) : Int) := fun x hx => mem_idn.1 (hp.mem_iff.1 hx)
  have hv := hm v (by simp)
  refine ⟨d.map (unb v), v, ?_, mem_idn.2 hv, ?_⟩
  · refine perm_of_nodup ?_ (fun x hx => ?_) (by simpa using hl)
    · refine List.pairwise_map.2 ?_
      have h5 : List.Pairwise (fun a b => a ∈ d ∧ b ∈ d ∧ a ≠ b) d := List.pairwise_iff_forall_sublist.2 fun {a b} hs => by
        have hs' := hs.subset
        exact ⟨hs' (by simp), hs' (by simp), by
          have := (List.pairwise_iff_forall_sublist.1 hn1) hs
          exact this⟩
      refine h5.imp fun ⟨ha, hb, hab⟩ e => hab ?_
      rw [← bump_unb v _ (hd _ ha), ← bump_unb v _ (hd _ hb), e]
    · obtain ⟨y, hy, rfl⟩ := List.mem_map.1 hx
      have h6 := hm y (by simp [hy])
      have h7 := hd y hy
      unfold unb; split <;> omega
  · rw [insV, List.map_map]
    congr 1
    symm
    have : d.map (bump v ∘ unb v) = d.map id := List.map_congr_left fun x hx => bump_unb v x (hd x hx)
    rw [this, List.map_id]
theorem mem_l12V {LL : List (List Int)} (h0 : avoidsV LL [] = true) : ∀ {k : Nat} {p : List Int}, p ∈ l12V LL k ↔ p.Perm (idn k) ∧ avoidsV LL p = true
  | 0, p => by
    simp only [l12V, List.mem_singleton]
    constructor
    · rintro rfl; exact ⟨List.Perm.refl _, h0⟩
    · rintro ⟨h, _⟩; exact List.Perm.eq_nil h
  | k + 1, p => by
    rw [l12V, nextV, List.mem_flatMap]
    constructor
    · rintro ⟨q, hq, hp⟩
      obtain ⟨hq1, _⟩ := (mem_l12V h0).1 hq
      rw [List.mem_filter] at hp
      obtain ⟨hp, ha⟩ := hp
      obtain ⟨v, hv, rfl⟩ := List.mem_map.1 hp
      exact ⟨insV_perm hq1 hv, ha⟩
    · rintro ⟨hp, ha⟩
      obtain ⟨q, v, hq, hv, rfl⟩ := insV_of_perm hp
      exact ⟨q, (mem_l12V h0).2 ⟨hq, avoids_ins ha⟩, List.mem_filter.2 ⟨List.mem_map.2 ⟨v, hv, rfl⟩, ha⟩⟩
theorem l12V_nodup {LL : List (List Int)} : ∀ k, (l12V LL k).Nodup
  | 0 => by simp [l12V]
  | k + 1 => by
    rw [l12V, nextV, List.Nodup, List.pairwise_flatMap]
    refine ⟨fun q _ => List.Pairwise.filter _ (List.pairwise_map.2 ((idn_nodup (k + 1)).imp fun hab e => hab (insV_inj e).2)), (l12V_nodup k).imp fun {a b} hab x hx y hy e => ?_⟩
    obtain ⟨v, _, rfl⟩ := List.mem_map.1 (List.mem_filter.1 hx).1
    obtain ⟨v', _, rfl⟩ := List.mem_map.1 (List.mem_filter.1 hy).1
    exact hab (insV_inj e).1
theorem lvl_nodup (n : Nat) : ∀ k, (lvl n k).Nodup
  | 0 => by simp [lvl]
  | k + 1 => by
    rw [lvl, List.Nodup, List.pairwise_flatMap]
    refine ⟨fun q _ => ?_, (lvl_nodup n k).imp fun {a b} hab x hx y hy e => ?_⟩
    · rw [extV, List.pairwise_flatMap]
      refine ⟨fun v _ => by split <;> simp, (idn_nodup n).imp fun {a b} hab x hx y hy e => ?_⟩
      split at hx
      · simp at hx
      · split at hy
        · simp at hy
        · simp at hx hy; subst hx hy; exact hab (by simpa using e)
    · obtain ⟨v, _, _, rfl⟩ := mem_extV.1 hx
      obtain ⟨v', _, _, rfl⟩ := mem_extV.1 hy
      exact hab (List.append_inj' e rfl).1
theorem l12V_perm {LL : List (List Int)} (h0 : avoidsV LL [] = true) (k : Nat) : (l12V LL k).Perm (classV LL k) := by
  refine (List.perm_ext_iff_of_nodup (l12V_nodup k) (List.Pairwise.filter _ (lvl_nodup k k))).2 fun p => ?_
  show p ∈ l12V LL k ↔ p ∈ (permsV k).filter (avoidsV LL)
  rw [mem_l12V h0, List.mem_filter, mem_permsV]
theorem l12V_len {LL : List (List Int)} (h0 : avoidsV LL [] = true) (k : Nat) : (l12V LL k).length = (classV LL k).length := (l12V_perm h0 k).length_eq
theorem l12V_mem_len {LL : List (List Int)} (h0 : avoidsV LL [] = true) {k : Nat} {p : List Int} (h : p ∈ l12V LL k) : p.length = k := by
  rw [((mem_l12V h0).1 h).1.length_eq, idn_length]
end Go.Proofs.Ytmhgjfahgemblaa
