/- The texts TbMath, Form, CodeT, CodeS, CodeB, Law2, LawSs, LawSz, Tab, TbDraw, Flat, PotMath, TbMath2 in one (gmerge.py). -/
import Derived.Lib.AppendZeros
import Derived.Test.YtdchjhhpbdekeaaTbM3
/- A tableau is told by how many small numbers its first rows have; the tableau of the inverse, and of the reverse. No program in sight. -/
namespace Go.Proofs.Ytdchjhhpbdekeaa
open Go
set_option maxRecDepth 100000

/-- The numbers up to m. -/
def fm (m : Int) (R : List Int) : List Int := R.filter fun x => decide (x ≤ m)
def cle (m : Int) (R : List Int) : Nat := (fm m R).length
theorem fm_nil (m : Int) : fm m [] = [] := rfl
theorem fm_cons (m a : Int) (R : List Int) : fm m (a :: R) = if a ≤ m then a :: fm m R else fm m R := by
  simp only [fm, List.filter_cons, decide_eq_true_eq]
theorem fm_append (m : Int) (A B : List Int) : fm m (A ++ B) = fm m A ++ fm m B := List.filter_append ..
theorem cle_cons (m a : Int) (R : List Int) : cle m (a :: R) = (if a ≤ m then 1 else 0) + cle m R := by
  unfold cle
  rw [fm_cons]
  split <;> simp <;> omega
theorem cle_append (m : Int) (A B : List Int) : cle m (A ++ B) = cle m A + cle m B := by simp [cle, fm_append]
theorem fm_none {m : Int} {R : List Int} (h : ∀ x ∈ R, m < x) : fm m R = [] := by
  rw [fm, List.filter_eq_nil_iff]
  intro x hx
  have := h x hx
  simp; omega
theorem fm_all {m : Int} {R : List Int} (h : ∀ x ∈ R, x ≤ m) : fm m R = R := by
  rw [fm, List.filter_eq_self]
  intro x hx
  simpa using h x hx
/-- Rows that ascend are told by their counts. -/
theorem inc_eq {n : Nat} : ∀ {A B : List Int}, Inc A → Inc B → (∀ x ∈ A, 0 ≤ x ∧ x ≤ n) → (∀ x ∈ B, 0 ≤ x ∧ x ≤ n) → (∀ m : Nat, m ≤ n → cle m A = cle m B) → A = B
  | [], [], _, _, _, _, _ => rfl
  | [], b :: B, _, _, _, hB, h => by
    have hb := hB b (by simp)
    have := h b.toNat (by omega)
    rw [cle_cons, if_pos (by omega)] at this
    simp [cle, fm_nil] at this <;> omega
  | a :: A, [], _, _, hA, _, h => by
    have ha := hA a (by simp)
    have := h a.toNat (by omega)
    rw [cle_cons, if_pos (by omega)] at this
    simp [cle, fm_nil] at this <;> omega
  | a :: A, b :: B, iA, iB, hA, hB, h => by
    have ha := hA a (by simp)
    have hb := hB b (by simp)
    have jA := (inc_cons.1 iA).1
    have jB := (inc_cons.1 iB).1
    have e : a = b := by
      rcases Int.lt_trichotomy a b with h1 | h1 | h1
      · have := h a.toNat (by omega)
        rw [cle_cons, if_pos (by omega), cle_cons, if_neg (by omega)] at this
        have h2 : cle (a.toNat : Int) B = 0 := by
          unfold cle; rw [fm_none fun x hx => by have := jB x hx; omega]; rfl
        omega
      · exact h1
      · have := h b.toNat (by omega)
        rw [cle_cons, if_neg (by omega), cle_cons, if_pos (by omega)] at this
        have h2 : cle (b.toNat : Int) A = 0 := by
          unfold cle; rw [fm_none fun x hx => by have := jA x hx; omega]; rfl
        omega
    subst e
    rw [inc_eq (inc_cons.1 iA).2 (inc_cons.1 iB).2 (fun x hx => hA x (by simp [hx])) (fun x hx => hB x (by simp [hx])) fun m hm => by
      have := h m hm
      rw [cle_cons, cle_cons] at this; omega]
/-- How many numbers up to m the first k rows have. -/
def cnk (T : List (List Int)) (m : Int) : Nat → Nat
  | 0 => 0
  | k + 1 => cnk T m k + cle m (T.getD k [])
theorem getD_mem {T : List (List Int)} {r : Nat} {x : Int} (h : x ∈ T.getD r []) : x ∈ T.flatten := by
  by_cases hr : r < T.length
  · rw [List.getD_eq_getElem?_getD, List.getElem?_eq_getElem hr] at h
    exact List.mem_flatten.2 ⟨T[r], List.getElem_mem hr, h⟩
  · rw [List.getD_eq_getElem?_getD, List.getElem?_eq_none (by omega)] at h; simp at h
theorem rows_eq {n : Nat} {T U : List (List Int)} (hT : ∀ r, r < T.length → T.getD r [] ≠ [] ∧ Inc (T.getD r [])) (hU : ∀ r, r < U.length → U.getD r [] ≠ [] ∧ Inc (U.getD r []))
    (bT : ∀ x ∈ T.flatten, 0 ≤ x ∧ x ≤ n) (bU : ∀ x ∈ U.flatten, 0 ≤ x ∧ x ≤ n) (h : ∀ m : Nat, m ≤ n → ∀ k, cnk T m k = cnk U m k) : T = U := by
  have out : ∀ (V : List (List Int)) (r : Nat), ¬ r < V.length → V.getD r [] = [] := fun V r hr => by
    rw [List.getD_eq_getElem?_getD, List.getElem?_eq_none (by omega)]; rfl
  have inc : ∀ (V : List (List Int)), (∀ r, r < V.length → V.getD r [] ≠ [] ∧ Inc (V.getD r [])) → ∀ r, Inc (V.getD r []) := fun V hV r => by
    by_cases hr : r < V.length
    · exact (hV r hr).2
    · rw [out V r hr]; exact List.Pairwise.nil
  have hr : ∀ r, T.getD r [] = U.getD r [] := fun r =>
    inc_eq (inc T hT r) (inc U hU r) (fun x hx => bT x (getD_mem hx)) (fun x hx => bU x (getD_mem hx)) fun m hm => by
      have h1 := h m hm r
      have h2 := h m hm (r + 1)
      rw [cnk, cnk] at h2; omega
  have hl : T.length = U.length := by
    rcases Nat.lt_trichotomy T.length U.length with h1 | h1 | h1
    · exact absurd (by rw [← hr, out T _ (by omega)]) (hU T.length h1).1
    · exact h1
    · exact absurd (by rw [hr, out U _ (by omega)]) (hT U.length h1).1
  apply List.ext_getElem hl
  intro i h1 h2
  have := hr i
  rwa [List.getD_eq_getElem?_getD, List.getD_eq_getElem?_getD, List.getElem?_eq_getElem h1, List.getElem?_eq_getElem h2] at this
/-- The rows of a tableau. -/
theorem tab_rows {T : List (List Int)} (h : Tab T) : ∀ i, i < T.length → T.getD i [] ≠ [] ∧ Inc (T.getD i []) := by
  induction T with
  | nil => intro i hi; simp at hi
  | cons R T ih =>
    intro i hi
    cases i with
    | zero => exact ⟨h.1, h.2.1⟩
    | succ i => exact ih h.tail i (by simpa using hi)

/-! ### Small numbers alone -/
theorem fm_pre {m : Int} : ∀ {R : List Int}, Inc R → fm m R = R.take (cle m R) ∧ ∀ j, j < R.length → (R.getD j 0 ≤ m ↔ j < cle m R)
  | [], _ => ⟨rfl, fun j hj => by simp at hj⟩
  | a :: R, h => by
    have h1 := (inc_cons.1 h).1
    obtain ⟨i1, i2⟩ := fm_pre (m := m) (inc_cons.1 h).2
    rw [cle_cons, fm_cons]
    split
    · rename_i ha
      refine ⟨by rw [Nat.add_comm, List.take_succ_cons, ← i1], fun j hj => ?_⟩
      cases j with
      | zero => simp; omega
      | succ j =>
        have := i2 j (by simpa using hj)
        simp only [List.getD_cons_succ]
        rw [this]; omega
    · rename_i ha
      have hz : fm m R = [] := fm_none fun x hx => by have := h1 x hx; omega
      have hz2 : cle m R = 0 := by unfold cle; rw [hz]; rfl
      rw [hz, hz2]
      refine ⟨rfl, fun j hj => ?_⟩
      cases j with
      | zero => simp; omega
      | succ j =>
        have h3 := i2 j (by simpa using hj)
        rw [hz2] at h3
        simp only [List.getD_cons_succ]
        rw [h3]
        omega
theorem inc_fm {m : Int} {R : List Int} (h : Inc R) : Inc (fm m R) := h.sublist List.filter_sublist
theorem under_fm {m : Int} {R S : List Int} (hR : Inc R) (hS : Inc S) (h : Under R S) : Under (fm m R) (fm m S) := by
  obtain ⟨r1, r2⟩ := fm_pre (m := m) hR
  obtain ⟨s1, s2⟩ := fm_pre (m := m) hS
  have le : cle m S ≤ S.length := List.length_filter_le _ _
  have key : ∀ j, j < cle m S → j < cle m R := fun j hj => by
    have h1 := h.2 j (by omega)
    have h2 := (s2 j (by omega)).2 hj
    exact (r2 j (by have := h.1; omega)).1 (by omega)
  have hl : (fm m S).length ≤ (fm m R).length := by
    rcases Nat.lt_or_ge (fm m R).length (fm m S).length with h1 | h1
    · have := key (fm m R).length h1
      unfold cle at this; omega
    · exact h1
  refine ⟨hl, fun j hj => ?_⟩
  have gt : ∀ {V : List Int} {c : Nat}, j < c → (V.take c).getD j 0 = V.getD j 0 := fun hc => by
    rw [List.getD_eq_getElem?_getD, List.getElem?_take, if_pos hc, ← List.getD_eq_getElem?_getD]
  rw [r1, s1, gt (key j hj), gt (c := cle m S) hj]
  exact h.2 j (by unfold cle at le; omega)
theorem fm_tword (m : Int) : ∀ T : List (List Int), fm m (tword T) = tword (T.map (fm m))
  | [] => rfl
  | R :: T => by rw [tword, fm_append, fm_tword m T]; rfl
theorem tots_cnk (m : Int) : ∀ (T : List (List Int)) (k : Nat), tots ((T.map (fm m)).take k) = cnk T m k
  | T, 0 => by simp [tots, cnk]
  | T, k + 1 => by
    rw [cnk, ← tots_cnk m T k]
    by_cases hk : k < T.length
    · have h1 : k < (T.map (fm m)).length := by simpa using hk
      rw [List.take_succ_eq_append_getElem h1]
      simp only [tots, List.map_append, List.sum_append, List.map_cons, List.map_nil, List.sum_cons, List.sum_nil, List.getElem_map]
      rw [List.getD_eq_getElem?_getD, List.getElem?_eq_getElem hk]
      simp [cle]
    · rw [List.take_of_length_le (by simp; omega), List.take_of_length_le (by simp; omega), List.getD_eq_getElem?_getD, List.getElem?_eq_none (by omega)]
      simp [cle, fm]
/-- The most places that k colours colour. -/
def Most (k : Nat) (w : List Int) (n : Nat) : Prop := Reach k w n ∧ ∀ n', Reach k w n' → n' ≤ n
theorem Most.eq {k : Nat} {w : List Int} {n n' : Nat} (h : Most k w n) (h' : Most k w n') : n = n' := Nat.le_antisymm (h'.2 n h.1) (h.2 n' h'.1)
theorem Most.kn {k : Nat} {u v : List Int} {n : Nat} (h : Most k u n) (hk : Kn u v) : Most k v n := ⟨hk.reach h.1, fun n' hn => h.2 n' (hk.symm.reach hn)⟩
theorem Kn.fm {u v : List Int} (h : Kn u v) (m : Int) : Kn (fm m u) (fm m v) := by
  have e : ∀ (u v : List Int) (a b c : Int), Ytdchjhhpbdekeaa.fm m (u ++ a :: b :: c :: v) = Ytdchjhhpbdekeaa.fm m u ++ Ytdchjhhpbdekeaa.fm m [a, b, c] ++ Ytdchjhhpbdekeaa.fm m v := fun u v a b c => by
    have : u ++ a :: b :: c :: v = u ++ [a, b, c] ++ v := by simp
    rw [this, fm_append, fm_append]
  induction h with
  | a u v h1 h2 =>
    rename_i x y z
    rw [e, e]
    by_cases hz : z ≤ m
    · simp only [fm_cons, fm_nil, if_pos hz, if_pos (show x ≤ m by omega), if_pos (show y ≤ m by omega)]
      simpa using Kn.a (Ytdchjhhpbdekeaa.fm m u) (Ytdchjhhpbdekeaa.fm m v) h1 h2
    · simp only [fm_cons, fm_nil, if_neg hz]; exact Kn.refl _
  | a' u v h1 h2 =>
    rename_i x y z
    rw [e, e]
    by_cases hz : z ≤ m
    · simp only [fm_cons, fm_nil, if_pos hz, if_pos (show x ≤ m by omega), if_pos (show y ≤ m by omega)]
      simpa using Kn.a' (Ytdchjhhpbdekeaa.fm m u) (Ytdchjhhpbdekeaa.fm m v) h1 h2
    · simp only [fm_cons, fm_nil, if_neg hz]; exact Kn.refl _
  | b u v h1 h2 =>
    rename_i x y z
    rw [e, e]
    by_cases hz : z ≤ m
    · simp only [fm_cons, fm_nil, if_pos hz, if_pos (show x ≤ m by omega), if_pos (show y ≤ m by omega)]
      simpa using Kn.b (Ytdchjhhpbdekeaa.fm m u) (Ytdchjhhpbdekeaa.fm m v) h1 h2
    · simp only [fm_cons, fm_nil, if_neg hz]; exact Kn.refl _
  | b' u v h1 h2 =>
    rename_i x y z
    rw [e, e]
    by_cases hz : z ≤ m
    · simp only [fm_cons, fm_nil, if_pos hz, if_pos (show x ≤ m by omega), if_pos (show y ≤ m by omega)]
      simpa using Kn.b' (Ytdchjhhpbdekeaa.fm m u) (Ytdchjhhpbdekeaa.fm m v) h1 h2
    · simp only [fm_cons, fm_nil, if_neg hz]; exact Kn.refl _
  | refl w => exact Kn.refl _
  | trans _ _ ih1 ih2 => exact ih1.trans ih2
theorem most_tab {T : List (List Int)} (h : Tab T) (m : Int) (k : Nat) : Most k (fm m (tword T)) (cnk T m k) := by
  rw [fm_tword, ← tots_cnk]
  have hi := h.inc
  refine ⟨greene_lower (fun R hR => ?_) k, fun n hn => greene_upper ?_ hn⟩
  · obtain ⟨S, hS, rfl⟩ := List.mem_map.1 hR; exact inc_fm (hi S hS)
  · rw [List.pairwise_map]
    exact List.Pairwise.imp_of_mem (fun hA hB hAB => under_fm (hi _ hA) (hi _ hB) hAB) h.under
theorem most_ins {w : List Int} (h : w.Nodup) (m : Int) (k : Nat) : Most k (fm m w) (cnk (insP w) m k) := by
  obtain ⟨h1, _, h3⟩ := insP_all h
  exact (most_tab h1 m k).kn (h3.symm.fm m)

/-! ### The inverse -/
theorem col_of {X : List (Int × Int)} : ∀ {W : List (Int × Nat)}, (X.map (·.1)).Nodup → wd W = X.map (·.2) → ∃ c : Int → Nat, W = X.map fun x => (x.2, c x.1) := by
  induction X with
  | nil => intro W _ h; have : W = [] := by simpa [wd] using h
           exact ⟨fun _ => 0, by simp [this]⟩
  | cons x X ih =>
    intro W hn h
    unfold wd at h
    obtain ⟨y, V, rfl, h1, h2⟩ := List.map_eq_cons_iff.1 h
    rw [List.map_cons, List.nodup_cons] at hn
    obtain ⟨c, hc⟩ := ih hn.2 (W := V) h2
    refine ⟨fun i => if i = x.1 then y.2 else c i, ?_⟩
    show y :: V = (x.2, if x.1 = x.1 then y.2 else c x.1) :: X.map (fun z => (z.2, if z.1 = x.1 then y.2 else c z.1))
    have h1 : y.1 = x.2 := h1
    rw [if_pos rfl, ← h1]
    congr 1
    rw [hc]
    refine List.map_congr_left fun z hz => ?_
    rw [if_neg]
    intro e
    exact hn.1 (e ▸ List.mem_map_of_mem hz)
/-- Points, read from left to right and from below: the colourings are the same. -/
theorem reach_points {X Y : List (Int × Int)} (hX : X.Pairwise fun a b => a.1 < b.1) (hY : Y.Pairwise fun a b => a.2 < b.2) (hp : Y.Perm X) {k n : Nat} (h : Reach k (X.map (·.2)) n) : Reach k (Y.map (·.1)) n := by
  obtain ⟨W, h1, h2, h3, h4⟩ := h
  have hnX : (X.map (·.1)).Nodup := by
    rw [List.nodup_iff_pairwise_ne, List.pairwise_map]
    exact hX.imp fun h e => by omega
  obtain ⟨c, rfl⟩ := col_of hnX h1
  refine ⟨Y.map fun x => (x.1, c x.1), by simp [wd], ?_, ?_, ?_⟩
  · unfold AscW at h2 ⊢
    rw [List.pairwise_map] at h2 ⊢
    have h5 := hX.and h2
    have nd : Y.Nodup := by
      rw [List.nodup_iff_pairwise_ne]
      exact hY.imp fun h e => by subst e; omega
    have tot : ∀ a ∈ X, ∀ b ∈ X, a.1 < b.1 → c a.1 = c b.1 → c a.1 ≠ 0 → a.2 < b.2 := fun a ha b hb hab e1 e2 => by
      obtain ⟨i, hi, rfl⟩ := List.getElem_of_mem ha
      obtain ⟨j, hj, rfl⟩ := List.getElem_of_mem hb
      rcases Nat.lt_trichotomy i j with h | h | h
      · exact (List.pairwise_iff_getElem.1 h5 i j hi hj h).2 e1 e2
      · subst h; omega
      · have := (List.pairwise_iff_getElem.1 h5 j i hj hi h).1; omega
    refine List.Pairwise.imp_of_mem (fun {a b} ha hb hab => ?_) hY
    intro e1 e2
    have ha' := hp.mem_iff.1 ha
    have hb' := hp.mem_iff.1 hb
    show a.1 < b.1
    rcases Int.lt_trichotomy a.1 b.1 with h | h | h
    · exact h
    · exfalso
      obtain ⟨i, hi, ei⟩ := List.getElem_of_mem ha'
      obtain ⟨j, hj, ej⟩ := List.getElem_of_mem hb'
      rcases Nat.lt_trichotomy i j with h6 | h6 | h6
      · have := List.pairwise_iff_getElem.1 hX i j hi hj h6; rw [ei, ej] at this; omega
      · subst h6; rw [ei] at ej; subst ej; omega
      · have := List.pairwise_iff_getElem.1 hX j i hj hi h6; rw [ei, ej] at this; omega
    · have := tot b hb' a ha' h e1.symm (fun e3 => e2 (e1.trans e3))
      omega
  · intro x hx
    obtain ⟨y, hy, rfl⟩ := List.mem_map.1 hx
    have := h3 (y.2, c y.1) (List.mem_map.2 ⟨y, hp.mem_iff.1 hy, rfl⟩)
    exact this
  · rw [← h4]
    unfold cnt
    rw [← List.countP_eq_length_filter, ← List.countP_eq_length_filter, List.countP_map, List.countP_map]
    exact hp.countP_eq _
theorem reach_points' {X Y : List (Int × Int)} (hX : X.Pairwise fun a b => a.1 < b.1) (hY : Y.Pairwise fun a b => a.2 < b.2) (hp : Y.Perm X) {k n : Nat} (h : Reach k (Y.map (·.1)) n) : Reach k (X.map (·.2)) n := by
  have h1 := reach_points (X := Y.map fun x => (x.2, x.1)) (Y := X.map fun x => (x.2, x.1)) (by rw [List.pairwise_map]; exact hY) (by rw [List.pairwise_map]; exact hX) (hp.symm.map _) (k := k) (n := n) (by rw [List.map_map]; exact h)
  rw [List.map_map] at h1
  exact h1
theorem most_points {X Y : List (Int × Int)} (hX : X.Pairwise fun a b => a.1 < b.1) (hY : Y.Pairwise fun a b => a.2 < b.2) (hp : Y.Perm X) {k n : Nat} (h : Most k (X.map (·.2)) n) : Most k (Y.map (·.1)) n :=
  ⟨reach_points hX hY hp h.1, fun n' hn => h.2 n' (reach_points' hX hY hp hn)⟩
/-- q is the inverse of p. -/
structure Inv (p q : List Int) : Prop where
  len : q.length = p.length
  fwd : ∀ i, i < p.length → 1 ≤ p.getD i 0 ∧ p.getD i 0 ≤ p.length ∧ q.getD (p.getD i 0 - 1).toNat 0 = (i : Int) + 1
  bwd : ∀ i, i < p.length → 1 ≤ q.getD i 0 ∧ q.getD i 0 ≤ p.length ∧ p.getD (q.getD i 0 - 1).toNat 0 = (i : Int) + 1
theorem Inv.symm {p q : List Int} (h : Inv p q) : Inv q p :=
  ⟨h.len.symm, fun i hi => by rw [h.len] at hi ⊢; exact h.bwd i hi, fun i hi => by rw [h.len] at hi ⊢; exact h.fwd i hi⟩
/-- The points of the first m places. -/
def pts (p : List Int) (m : Nat) : List (Int × Int) := (List.range m).map fun (i : Nat) => ((i : Int) + 1, p.getD i 0)
def ptsV (q : List Int) (m : Int) : List (Int × Int) := ((List.range q.length).map fun (j : Nat) => (q.getD j 0, (j : Int) + 1)).filter fun x => decide (x.1 ≤ m)
theorem map_getD (p : List Int) (m : Nat) (hm : m ≤ p.length) : (List.range m).map (fun i => p.getD i 0) = p.take m := by
  apply List.ext_getElem
  · simp; omega
  · intro i h1 h2
    simp at h1
    simp [List.getD_eq_getElem?_getD, List.getElem?_eq_getElem (show i < p.length by omega)]
theorem pts_snd {p : List Int} {m : Nat} (hm : m ≤ p.length) : (pts p m).map (·.2) = p.take m := by
  rw [← map_getD p m hm, pts, List.map_map]; rfl
theorem ptsV_fst (q : List Int) (m : Int) : (ptsV q m).map (·.1) = fm m q := by
  have h1 : fm m q = fm m ((List.range q.length).map fun i => q.getD i 0) := by rw [map_getD q _ (Nat.le_refl _), List.take_length]
  rw [h1, ptsV, fm, List.filter_map, List.filter_map, List.map_map]
  rfl
theorem pts_perm {p q : List Int} (h : Inv p q) {m : Nat} (hm : m ≤ p.length) : (ptsV q m).Perm (pts p m) := by
  have n1 : (pts p m).Nodup := by
    rw [List.nodup_iff_pairwise_ne, pts, List.pairwise_map]
    exact List.pairwise_lt_range.imp fun h e => by simp at e; omega
  have n2 : (ptsV q m).Nodup := by
    refine List.Nodup.sublist List.filter_sublist ?_
    rw [List.nodup_iff_pairwise_ne, List.pairwise_map]
    exact List.pairwise_lt_range.imp fun h e => by simp at e; omega
  rw [List.perm_ext_iff_of_nodup n2 n1]
  rintro ⟨a, b⟩
  simp only [ptsV, pts, List.mem_filter, List.mem_map, List.mem_range, Prod.mk.injEq, decide_eq_true_eq]
  constructor
  · rintro ⟨⟨j, hj, rfl, rfl⟩, ha⟩
    rw [h.len] at hj
    obtain ⟨b1, b2, b3⟩ := h.bwd j hj
    exact ⟨(q.getD j 0 - 1).toNat, by omega, by omega, b3⟩
  · rintro ⟨i, hi, rfl, rfl⟩
    obtain ⟨f1, f2, f3⟩ := h.fwd i (by omega)
    exact ⟨⟨(p.getD i 0 - 1).toNat, by rw [h.len]; omega, f3, by omega⟩, by omega⟩
theorem most_inv {p q : List Int} (h : Inv p q) {m : Nat} (hm : m ≤ p.length) {k n : Nat} (hM : Most k (p.take m) n) : Most k (fm m q) n := by
  rw [← ptsV_fst]
  rw [← pts_snd hm] at hM
  refine most_points ?_ ?_ (pts_perm h hm) hM
  · rw [pts, List.pairwise_map]
    exact List.pairwise_lt_range.imp fun h => by simp; omega
  · refine List.Pairwise.sublist List.filter_sublist ?_
    rw [List.pairwise_map]
    exact List.pairwise_lt_range.imp fun h => by simp; omega

/-! ### The tableau that keeps the order -/
theorem getD_set_row (T : List (List Int)) (i j : Nat) (R : List Int) : (T.set i R).getD j [] = if i = j ∧ i < T.length then R else T.getD j [] := by
  simp only [List.getD_eq_getElem?_getD, List.getElem?_set]
  by_cases h : i = j
  · subst h
    by_cases h2 : i < T.length
    · simp [h2]
    · simp [h2]
  · simp [h]
theorem addAt_getD {Q : List (List Int)} {r : Nat} (hr : r ≤ Q.length) (x : Int) (j : Nat) : (addAt Q r x).getD j [] = if j = r then Q.getD r [] ++ [x] else Q.getD j [] := by
  unfold addAt
  split
  · rename_i h
    rw [getD_set_row]
    by_cases e : r = j
    · subst e; rw [if_pos ⟨rfl, h⟩, if_pos rfl]
    · rw [if_neg (by omega), if_neg (by omega)]
  · have e : r = Q.length := by omega
    subst e
    rcases Nat.lt_trichotomy j Q.length with h1 | h1 | h1
    · rw [if_neg (by omega), List.getD_eq_getElem?_getD, List.getElem?_append_left h1, ← List.getD_eq_getElem?_getD]
    · subst h1
      rw [if_pos rfl]
      simp [List.getD_eq_getElem?_getD]
    · rw [if_neg (by omega), List.getD_eq_getElem?_getD, List.getElem?_eq_none (by simp; omega), List.getD_eq_getElem?_getD, List.getElem?_eq_none (by omega)]
theorem tabIns_len : ∀ (T : List (List Int)) (v : Int) (j : Nat), ((tabIns T v).getD j []).length = (T.getD j []).length + if j = tabRow T v then 1 else 0
  | [], v, j => by
    cases j with
    | zero => simp [tabIns, tabRow]
    | succ j => simp [tabIns, tabRow]
  | R :: T, v, j => by
    rw [tabIns, tabRow]
    split
    · cases j with
      | zero => simp
      | succ j =>
        have := tabIns_len T (R.getD (rpos R v) 0) j
        simp only [List.getD_cons_succ]
        rw [this]
        congr 1
        by_cases e : j = tabRow T (R.getD (rpos R v) 0)
        · rw [if_pos e, if_pos (by omega)]
        · rw [if_neg e, if_neg (by omega)]
    · cases j with
      | zero => simp
      | succ j => simp
theorem insQ_row {w : List Int} {k : Nat} (hk : k < w.length) : tabRow (insP (w.take k)) (w.getD k 0) ≤ (insQ w k).length := by
  rw [insQ_length w k (by omega)]; exact (tabIns_length _ _).1
theorem take_snoc {w : List Int} {k : Nat} (hk : k < w.length) : w.take (k + 1) = w.take k ++ [w.getD k 0] := by
  rw [List.getD_eq_getElem?_getD, List.getElem?_eq_getElem hk]; simp
theorem insQ_lens {w : List Int} : ∀ k, k ≤ w.length → ∀ j, ((insQ w k).getD j []).length = ((insP (w.take k)).getD j []).length
  | 0, _, j => by simp [insQ, insP]
  | k + 1, hk, j => by
    have ih := insQ_lens (w := w) k (by omega)
    rw [insQ, take_snoc (by omega), insP_snoc, tabIns_len, addAt_getD (insQ_row (by omega)), ← ih]
    split
    · rename_i e; subst e; simp
    · simp
theorem insQ_le {w : List Int} : ∀ k, k ≤ w.length → ∀ j, ∀ x ∈ (insQ w k).getD j [], 1 ≤ x ∧ x ≤ k
  | 0, _, j, x, hx => by simp [insQ] at hx
  | k + 1, hk, j, x, hx => by
    rw [insQ, addAt_getD (insQ_row (by omega))] at hx
    split at hx
    · rcases List.mem_append.1 hx with hx | hx
      · have := insQ_le k (by omega) _ x hx; omega
      · simp at hx; omega
    · have := insQ_le k (by omega) _ x hx; omega
theorem insQ_inc {w : List Int} : ∀ k, k ≤ w.length → ∀ j, Inc ((insQ w k).getD j [])
  | 0, _, j => by simp [insQ]; exact List.Pairwise.nil
  | k + 1, hk, j => by
    rw [insQ, addAt_getD (insQ_row (by omega))]
    split
    · unfold Inc
      rw [List.pairwise_append]
      refine ⟨insQ_inc k (by omega) _, by simp, fun a ha b hb => ?_⟩
      have := insQ_le k (by omega) _ a ha
      simp at hb; omega
    · exact insQ_inc k (by omega) _
/-- The numbers up to m of the order's tableau are its first m numbers. -/
theorem insQ_fm {w : List Int} {m : Nat} : ∀ k, m ≤ k → k ≤ w.length → ∀ j, fm m ((insQ w k).getD j []) = (insQ w m).getD j []
  | k, hmk, hk, j => by
    rcases Nat.lt_or_ge m k with h | h
    · obtain ⟨d, rfl⟩ : ∃ d, k = d + 1 := ⟨k - 1, by omega⟩
      rw [insQ, addAt_getD (insQ_row (by omega))]
      have ih := insQ_fm (w := w) (m := m) d (by omega) (by omega)
      split
      · rename_i e; subst e
        rw [fm_append, ih, fm_cons, if_neg (by omega), fm_nil, List.append_nil]
      · exact ih j
    · have : k = m := by omega
      subst this
      exact fm_all fun x hx => (insQ_le k hk j x hx).2
theorem tots_lens {T U : List (List Int)} (h : ∀ j, (T.getD j []).length = (U.getD j []).length) : ∀ k, tots (T.take k) = tots (U.take k) := by
  have e : ∀ (V : List (List Int)) (k : Nat), tots (V.take (k + 1)) = tots (V.take k) + (V.getD k []).length := fun V k => by
    by_cases hk : k < V.length
    · rw [List.take_succ_eq_append_getElem hk, List.getD_eq_getElem?_getD, List.getElem?_eq_getElem hk]
      simp only [tots, List.map_append, List.sum_append, List.map_cons, List.map_nil, List.sum_cons, List.sum_nil, Option.getD_some]
      omega
    · rw [List.take_of_length_le (by omega), List.take_of_length_le (by omega), List.getD_eq_getElem?_getD, List.getElem?_eq_none (by omega)]
      simp
  intro k
  induction k with
  | zero => simp [tots]
  | succ k ih => rw [e, e, ih, h]
theorem cnk_insQ {w : List Int} {n m : Nat} (hm : m ≤ n) (hn : n ≤ w.length) : ∀ k, cnk (insQ w n) m k = tots ((insP (w.take m)).take k) := by
  intro k
  rw [← tots_lens (insQ_lens m (by omega)) k]
  have h1 : ∀ k, cnk (insQ w n) m k = tots ((insQ w m).take k) := by
    intro k
    induction k with
    | zero => simp [cnk, tots]
    | succ k ih =>
      rw [cnk, ih, cle, insQ_fm n hm hn]
      by_cases hk : k < (insQ w m).length
      · rw [List.take_succ_eq_append_getElem hk, List.getD_eq_getElem?_getD, List.getElem?_eq_getElem hk]
        simp only [tots, List.map_append, List.sum_append, List.map_cons, List.map_nil, List.sum_cons, List.sum_nil, Option.getD_some]
        omega
      · rw [List.take_of_length_le (by omega), List.take_of_length_le (by omega), List.getD_eq_getElem?_getD, List.getElem?_eq_none (by omega)]
        simp
  exact h1 k
/-- The tableau of the inverse is the one that keeps the order. -/
theorem insP_inv {p q : List Int} (h : Inv p q) (hp : p.Nodup) (hq : q.Nodup) : insP q = insQ p p.length := by
  obtain ⟨t1, t2, _⟩ := insP_all hq
  have hQl : (insQ p p.length).length = (insP p).length := by rw [insQ_length p _ (Nat.le_refl _), List.take_length]
  obtain ⟨s1, _, _⟩ := insP_all hp
  refine rows_eq (n := p.length) (tab_rows t1) (fun r hr => ⟨?_, insQ_inc _ (Nat.le_refl _) r⟩) (fun x hx => ?_) (fun x hx => ?_) fun m hm k => ?_
  · have h1 := insQ_lens (w := p) p.length (Nat.le_refl _) r
    rw [List.take_length] at h1
    have h2 := (tab_rows s1 r (by omega)).1
    intro e
    rw [e] at h1
    exact h2 (List.eq_nil_of_length_eq_zero h1.symm)
  · have hx := t2.mem_iff.1 hx
    obtain ⟨i, hi, rfl⟩ := List.getElem_of_mem hx
    have := h.bwd i (by rw [← h.len]; exact hi)
    rw [List.getD_eq_getElem?_getD, List.getElem?_eq_getElem hi] at this
    simp at this; omega
  · obtain ⟨R, hR, hx⟩ := List.mem_flatten.1 hx
    obtain ⟨r, hr, rfl⟩ := List.getElem_of_mem hR
    have := insQ_le (w := p) p.length (Nat.le_refl _) r x (by rw [List.getD_eq_getElem?_getD, List.getElem?_eq_getElem hr]; exact hx)
    omega
  · rw [cnk_insQ hm (Nat.le_refl _)]
    have g := greene (hp.sublist (List.take_sublist m p)) k
    exact Most.eq (most_ins hq m k) (most_inv h hm g)
end Go.Proofs.Ytdchjhhpbdekeaa

/- Forms of tableaux: both tests answer alike. -/
namespace Go.Proofs.Ytdchjhhpbdekeaa
open Go Go.RowKit
set_option maxRecDepth 100000

/-- The sum of the first k numbers. -/
def sm (L : List Int) : Nat → Int
  | 0 => 0
  | k + 1 => sm L k + L.getD k 0
def fOk (L : List Int) (most : Int) (j : Nat) : Prop := 1 ≤ L.getD j 0 ∧ sm L j + L.getD j 0 ≤ most ∧ (0 < j → L.getD j 0 ≤ L.getD (j - 1) 0)
def FormOk (L : List Int) (most : Int) : Prop := ∀ j, j < L.length → fOk L most j
theorem sm_ge {L : List Int} {k : Nat} (h : ∀ j, j < k → 1 ≤ L.getD j 0) : (k : Int) ≤ sm L k := by
  induction k with
  | zero => simp [sm]
  | succ k ih =>
    have := ih (fun j hj => h j (by omega))
    have := h k (by omega)
    simp only [sm]; omega
theorem sm_mono {L : List Int} {k n : Nat} (hkn : k ≤ n) (h : ∀ j, j < n → 1 ≤ L.getD j 0) : sm L k ≤ sm L n := by
  induction n with
  | zero => have : k = 0 := by omega
            subst this; exact Int.le_refl _
  | succ n ih =>
    rcases Nat.lt_or_ge n k with h1 | h1
    · have : k = n + 1 := by omega
      subst this; exact Int.le_refl _
    · have := ih h1 (fun j hj => h j (by omega))
      have := h n (by omega)
      simp only [sm]; omega
open Classical in
theorem c_isForm {w : World} {a : Sl} {L : List Int} (ha : RowI w a L) (hL : L.length < 2^39) (hbd : ∀ x ∈ L, -9223372036854775808 ≤ x ∧ x ≤ 9223372036854775807) {most : Int} (hm : 0 ≤ most) (hm2 : most ≤ 100) :
    Quiet F.impl_isForm #[a.v, vI most] w (.bool (decide (FormOk L most))) := by
  intro w1 hd
  have han : a.n = L.length := by have := ha.n; simpa using this
  refine impl_isForm.calls a most ?_
  rw [impl_isForm.E_s]
  refine impl_isForm.L3_rule _ _ _ _ _ _ _ _ (I := fun sum k w' => w' = w1 ∧ 0 ≤ k ∧ k ≤ L.length ∧ sum = sm L k.toNat ∧ 0 ≤ sum ∧ sum ≤ most ∧ ∀ j, j < k.toNat → fOk L most j) (μ := fun _ k _ => (L.length - k).toNat)
    ⟨rfl, by omega, by omega, rfl, by omega, hm, fun j hj => by simp at hj⟩ ?_
  rintro sum k w' ⟨rfl, h0, hk, hs, hs0, hsm, hall⟩
  have hsucc : (k + 1).toNat = k.toNat + 1 := by omega
  have bad : k < L.length → ¬ fOk L most k.toNat → impl_isForm.q1 std (fun e w'' => e = .returned (.bool (decide (FormOk L most))) ∧ Drew w' w'') .ret [(4, .bool false)] w' := by
    intro hk3 hb
    rw [impl_isForm.R3_s]
    have : ¬ FormOk L most := fun h => hb (h k.toNat (by omega))
    exact ⟨by simp [this], Drew.refl _⟩
  have good : k < L.length → fOk L most k.toNat → ∃ sum_5_n t10_n, impl_isForm.emb3 a most (w64 (sum + L.getD k.toNat 0)) a (a.n : Int) (w64 (k + 1)) = impl_isForm.emb3 a most sum_5_n a (a.n : Int) t10_n ∧
      (w' = w' ∧ 0 ≤ t10_n ∧ t10_n ≤ L.length ∧ sum_5_n = sm L t10_n.toNat ∧ 0 ≤ sum_5_n ∧ sum_5_n ≤ most ∧ ∀ j, j < t10_n.toNat → fOk L most j) ∧ (L.length - t10_n).toNat < (L.length - k).toNat := by
    intro hk3 hg
    obtain ⟨g1, g2, g3⟩ := hg
    refine ⟨sm L (k.toNat + 1), k + 1, ?_, ⟨rfl, by omega, by omega, by rw [hsucc], ?_, ?_, fun j hj => ?_⟩, by omega⟩
    · rw [w64_succ h0 (by omega), w64_id (by omega) (by omega), hs]; rfl
    · simp only [sm]; omega
    · simp only [sm]; omega
    · by_cases hj2 : j < k.toNat
      · exact hall j hj2
      · have : j = k.toNat := by omega
        subst this; exact ⟨g1, g2, g3⟩
  rw [impl_isForm.B3_s]
  refine bif_dec (fun h3 => ?_) (fun h3 => ?_)
  · have hlt : k.toNat < L.length := by omega
    refine RowI.get (ha.heap hd.heap') h0 (by omega) ?_
    refine bif_dec (fun h4 => bad (by omega) fun hg => by have := hg.1; omega) (fun h4 => ?_)
    rw [w64_id (n := most - sum) (by omega) (by omega)]
    refine bif_dec (fun h5 => bad (by omega) fun hg => by have := hg.2.1; omega) (fun h5 => ?_)
    refine bif_dec (fun h6 => ?_) (fun h6 => ?_)
    · rw [w64_id (n := k - 1) (by omega) (by omega)]
      refine RowI.get (ha.heap hd.heap') (by omega) (by omega) ?_
      have e1 : (k - 1).toNat = k.toNat - 1 := by omega
      rw [e1]
      refine bif_dec (fun h7 => bad (by omega) fun hg => by have := hg.2.2 (by omega); omega) (fun h7 => ?_)
      exact good (by omega) ⟨by omega, by omega, fun _ => by omega⟩
    · exact good (by omega) ⟨by omega, by omega, fun h => by omega⟩
  · rw [impl_isForm.A3_0_s]
    have : FormOk L most := fun j hj => hall j (by omega)
    exact ⟨by simp [this], Drew.refl _⟩

open Classical in
theorem c_l19Form {w : World} {a : Sl} {L : List Int} (ha : RowI w a L) (hL : L.length < 2^39) {most : Int} (hm : 0 ≤ most) (hm2 : most ≤ 100) :
    Quiet F.spec_l19Form #[a.v, vI most] w (.bool (decide (FormOk L most))) := by
  intro w1 hd
  have han : a.n = L.length := by have := ha.n; simpa using this
  refine spec_l19Form.calls a most ?_
  rw [spec_l19Form.E_s]
  refine spec_l19Form.L3_rule _ _ _ _ _ _ (I := fun sum k w' => Drew w1 w' ∧ 0 ≤ k ∧ k ≤ L.length ∧ k ≤ most ∧ sum = sm L k.toNat ∧ 0 ≤ sum ∧ sum ≤ k * 100 ∧
      ∀ j, j < k.toNat → 1 ≤ L.getD j 0 ∧ (0 < j → L.getD j 0 ≤ L.getD (j - 1) 0)) (μ := fun _ k _ => (L.length - k).toNat)
    ⟨Drew.refl _, by omega, by omega, hm, rfl, by omega, by omega, fun j hj => by simp at hj⟩ ?_
  rintro sum k w' ⟨hd2, h0, hk, hkm, hs, hs0, hsm, hall⟩
  have hh : w'.heap = w.heap := (hd.trans hd2).heap'
  have hsucc : (k + 1).toNat = k.toNat + 1 := by omega
  have bad : ∀ w2, Drew w' w2 → k < L.length → ¬ (FormOk L most) → spec_l19Form.q1 std (fun e w'' => e = .returned (.bool (decide (FormOk L most))) ∧ Drew w1 w'') .ret [(4, .bool false)] w2 := by
    intro w2 hd3 hk3 this
    rw [spec_l19Form.R3_s]
    exact ⟨by simp [this], hd2.trans hd3⟩
  have good : ∀ w2, Drew w' w2 → k < L.length → k < most → 1 ≤ L.getD k.toNat 0 → L.getD k.toNat 0 ≤ most → (0 < k.toNat → L.getD k.toNat 0 ≤ L.getD (k.toNat - 1) 0) →
     ∃ sum_5_n k_6_n, spec_l19Form.emb3 a most (w64 (sum + L.getD k.toNat 0)) (w64 (k + 1)) = spec_l19Form.emb3 a most sum_5_n k_6_n ∧
      (Drew w1 w2 ∧ 0 ≤ k_6_n ∧ k_6_n ≤ L.length ∧ k_6_n ≤ most ∧ sum_5_n = sm L k_6_n.toNat ∧ 0 ≤ sum_5_n ∧ sum_5_n ≤ k_6_n * 100 ∧ ∀ j, j < k_6_n.toNat → 1 ≤ L.getD j 0 ∧ (0 < j → L.getD j 0 ≤ L.getD (j - 1) 0)) ∧ (L.length - k_6_n).toNat < (L.length - k).toNat := by
    intro w2 hd3 hk3 hkm2 g1 g2 g3
    refine ⟨sm L (k.toNat + 1), k + 1, ?_, ⟨hd2.trans hd3, by omega, by omega, by omega, by rw [hsucc], ?_, ?_, fun j hj => ?_⟩, by omega⟩
    · rw [w64_succ h0 (by omega), w64_id (by omega) (by omega), hs]; rfl
    · simp only [sm]; omega
    · simp only [sm]; omega
    · by_cases hj2 : j < k.toNat
      · exact hall j hj2
      · have : j = k.toNat := by omega
        subst this; exact ⟨g1, g3⟩
  rw [spec_l19Form.B3_s]
  refine bif_dec (fun h3 => ?_) (fun h3 => ?_)
  · have hlt : k.toNat < L.length := by omega
    have nb : ¬ fOk L most k.toNat → ¬ FormOk L most := fun hb h => hb (h k.toNat hlt)
    have toobig : ¬ k < most → ¬ FormOk L most := fun hb h => by
      have h1 := sm_ge (L := L) (k := k.toNat) (fun j hj => (hall j hj).1)
      have h2 := (h k.toNat hlt)
      have h3 := h2.1
      have h4 := h2.2.1
      omega
    refine RowI.get (ha.heap hh) h0 (by omega) ?_
    refine bif_dec (fun h4 => drew_intro fun w2 hd3 => bad w2 hd3 (by omega) (nb fun hg => by have := hg.1; omega)) (fun h4 => ?_)
    refine RowI.get (ha.heap hh) h0 (by omega) ?_
    refine bif_dec (fun h5 => drew_intro fun w2 hd3 => bad w2 hd3 (by omega) (nb fun hg => by have := hg.2.1; omega)) (fun h5 => ?_)
    refine bif_dec (fun h6 => ?_) (fun h6 => ?_)
    · refine RowI.get (ha.heap hh) h0 (by omega) ?_
      rw [w64_id (n := k - 1) (by omega) (by omega)]
      refine RowI.get (ha.heap hh) (by omega) (by omega) ?_
      have e1 : (k - 1).toNat = k.toNat - 1 := by omega
      rw [e1]
      refine bif_dec (fun h7 => drew_intro fun w2 hd3 => bad w2 hd3 (by omega) (nb fun hg => by have := hg.2.2 (by omega); omega)) (fun h7 => ?_)
      refine drew_intro fun w2 hd3 => ?_
      refine bif_dec (fun h8 => bad w2 hd3 (by omega) (toobig (by omega))) (fun h8 => ?_)
      refine RowI.get (ha.heap (hd3.heap'.trans hh)) h0 (by omega) ?_
      exact good w2 hd3 (by omega) (by omega) (by omega) (by omega) (fun _ => by omega)
    · refine drew_intro fun w2 hd3 => ?_
      refine bif_dec (fun h8 => bad w2 hd3 (by omega) (toobig (by omega))) (fun h8 => ?_)
      refine RowI.get (ha.heap (hd3.heap'.trans hh)) h0 (by omega) ?_
      exact good w2 hd3 (by omega) (by omega) (by omega) (by omega) (fun h => by omega)
  · rw [spec_l19Form.A3_0_s]
    have e : k.toNat = L.length := by omega
    rw [e] at hs hall
    have : sum ≤ most ↔ FormOk L most := by
      constructor
      · intro h j hj
        have h1 := sm_mono (L := L) (k := j + 1) (n := L.length) (by omega) (fun j hj => (hall j hj).1)
        simp only [sm] at h1
        exact ⟨(hall j hj).1, by omega, (hall j hj).2⟩
      · intro h
        rw [hs]
        rcases Nat.eq_zero_or_pos L.length with h1 | h1
        · rw [h1]; exact hm
        · have h2 := (h (L.length - 1) (by omega)).2.1
          have : L.length = (L.length - 1) + 1 := by omega
          rw [this]; exact h2
    exact ⟨by simp [this], hd2⟩
end Go.Proofs.Ytdchjhhpbdekeaa

/- What each function does, step by step, written by a program (Gen.lean); each equation is checked by the kernel. -/
namespace Go.Proofs.Ytdchjhhpbdekeaa
open Go
set_option linter.unusedVariables false
set_option maxRecDepth 100000
namespace impl_form
@[reducible] def cfg : Cfg := ⟨20, [(3, [3, 7, 8, 9])], [(1, [3, 7, 8, 9]), (0, [3])], [], [2], [], [101, 107, 112, 15, 21, 124, 76, 137, 28, 115, 91, 81, 130], [138, 140, 82, 6, 86, 85, 132]⟩
def q2 (pr : Prims) (R : Ending → World → Prop) : Exit → Env → World → Prop := fun ex e w => normQ ex (fun e w => contE pr cfg (sub (codeOf Try.f104) [1, 1, 1]) (fun e w => wpC pr PP cfg (DD pr) (sub (codeOf Try.f104) [1, 1, 1]) (retQ Try.f104.results.toList R) e w) e w) (retQ Try.f104.results.toList R) e w
def q3 (pr : Prims) (R : Ending → World → Prop) : Exit → Env → World → Prop := fun ex e w => blockQ ex 0 (q2 pr R) e w
def emb3 (out_3 : Sl) (t7 : Sl) (t8 : Int) (t9 : Int) : Env := [(3, Sl.v out_3), (7, Sl.v t7), (8, vI t8), (9, vI t9)]
def x0 (out_3 : Sl) : Env := [(3, Sl.v out_3)]
def S3 (pr : Prims) (Q : Exit → Env → World → Prop) : (Env → World → Prop) → Env → World → Prop := fun k e w => wpC pr PP cfg (DD pr) (sub (codeOf Try.f104) [1, 1, 0, 1, 0, 0]) (fun ex e w => normQ ex (fun e' w' => k (Env.restr e' (lookN cfg.loops (keyOf (sub (codeOf Try.f104) [1, 1, 0, 1, 0, 0])))) w') Q e w) e w
def B3 (pr : Prims) (out_3 : Sl) (t7 : Sl) (t8 : Int) (t9 : Int) (w : World) (k : Env → World → Prop) (Q : Exit → Env → World → Prop) : Prop :=
  S3 pr Q k (emb3 out_3 t7 t8 t9) w
def L3 (pr : Prims) (out_3 : Sl) (t7 : Sl) (t8 : Int) (t9 : Int) (w : World) (Q : Exit → Env → World → Prop) : Prop :=
  pr.loop (S3 pr Q) (emb3 out_3 t7 t8 t9) w
def E (pr : Prims) (t_0 : Sl) (w : World) (R : Ending → World → Prop) : Prop :=
  wpC pr PP cfg (DD pr) (codeOf Try.f104) (retQ Try.f104.results.toList R) (argE 0 [Sl.v t_0]) w
theorem B3_eq (pr : Prims) (out_3 : Sl) (t7 : Sl) (t8 : Int) (t9 : Int) (w : World) (k : Env → World → Prop) (Q : Exit → Env → World → Prop) : B3 pr out_3 t7 t8 t9 w k Q = (
  bif decide (t9 < t8) then (
  pr.idxK 1 t7 t9 fun (a4 : Addr) =>
  pr.load1 .sl a4 w fun (ξ5 : Sl) =>
  pr.sem1 .sl PP (Instr.buildSlice T_Sint 1 #[(0, vI (ξ5.n : Int))]) w fun (ρ6 : Sl) ω7 =>
  pr.sem1 .sl PP (Builtin.append_ #[T_Sint, T_Sint] T_Sint #[Sl.v out_3, Sl.v ρ6]) ω7 fun (ρ8 : Sl) ω9 =>
  k (emb3 ρ8 t7 t8 (w64 (t9 + 1))) ω9)
  else (
  Q (.exit 0) (x0 out_3) w)) := by kernel_rfl
theorem B3_s (out_3 : Sl) (t7 : Sl) (t8 : Int) (t9 : Int) (w : World) (k : Env → World → Prop) (Q : Exit → Env → World → Prop) : B3 std out_3 t7 t8 t9 w k Q = (
  bif decide (t9 < t8) then (
  idxK 1 t7 t9 fun (a4 : Addr) =>
  load1 .sl a4 w fun (ξ5 : Sl) =>
  sem1 .sl PP (Instr.buildSlice T_Sint 1 #[(0, vI (ξ5.n : Int))]) w fun (ρ6 : Sl) ω7 =>
  sem1 .sl PP (Builtin.append_ #[T_Sint, T_Sint] T_Sint #[Sl.v out_3, Sl.v ρ6]) ω7 fun (ρ8 : Sl) ω9 =>
  k (emb3 ρ8 t7 t8 (w64 (t9 + 1))) ω9)
  else (
  Q (.exit 0) (x0 out_3) w)) := B3_eq std out_3 t7 t8 t9 w k Q
theorem L3_rule (out_3 : Sl) (t7 : Sl) (t8 : Int) (t9 : Int) (w : World) (Q : Exit → Env → World → Prop) (I : Sl → Int → World → Prop) (μ : Sl → Int → World → Nat) (h0 : I out_3 t9 w)
    (h : ∀ (out_3 : Sl) (t9 : Int) (w' : World), I out_3 t9 w' → B3 std out_3 t7 t8 t9 w' (fun e2 w2 => ∃ out_3_n t9_n, e2 = emb3 out_3_n t7 t8 t9_n ∧ I out_3_n t9_n w2 ∧ μ out_3_n t9_n w2 < μ out_3 t9 w') Q) :
    L3 std out_3 t7 t8 t9 w Q := by
  unfold L3
  refine LoopE.intro (σ := Sl × Int) (step := S3 std Q) (fun s => emb3 s.1 t7 t8 s.2) (fun s w => I s.1 s.2 w) (fun s w => μ s.1 s.2 w) (out_3, t9) rfl h0 ?_
  intro s w' hI
  have h1 := h s.1 s.2 w' hI
  unfold B3 at h1
  simp only [Prod.exists]
  exact h1
theorem A3_0_eq (pr : Prims) (out_3 : Sl) (w : World) (R : Ending → World → Prop) : (q3 pr R) (.exit 0) (x0 out_3) w = (
  R (.returned (Sl.v out_3)) w) := by kernel_rfl
theorem A3_0_s (out_3 : Sl) (w : World) (R : Ending → World → Prop) : (q3 std R) (.exit 0) (x0 out_3) w = (
  R (.returned (Sl.v out_3)) w) := A3_0_eq std out_3 w R
theorem E_eq (pr : Prims) (t_0 : Sl) (w : World) (R : Ending → World → Prop) : E pr t_0 w R = (
  pr.sem1 .sl PP (Instr.buildSlice T_Sint 0 #[]) w fun (ρ0 : Sl) ω1 =>
  L3 pr ρ0 t_0 (t_0.n : Int) 0 ω1 (q3 pr R)) := by kernel_rfl
theorem E_s (t_0 : Sl) (w : World) (R : Ending → World → Prop) : E std t_0 w R = (
  sem1 .sl PP (Instr.buildSlice T_Sint 0 #[]) w fun (ρ0 : Sl) ω1 =>
  L3 std ρ0 t_0 (t_0.n : Int) 0 ω1 (q3 std R)) := E_eq std t_0 w R
theorem drawsOk : drawsOk PP cfg okD (codeOf Try.f104) = true := by kernel_rfl
theorem calls (t_0 : Sl) {w : World} {R : Ending → World → Prop} (h : E std t_0 w R) : Calls PP F.impl_form #[Sl.v t_0] w R :=
  calls_of noCount mixed drawOk Try.func104 rfl (c := cfg) (args := [Sl.v t_0]) rfl (Nat.le_of_ble_eq_true (by kernel_rfl)) drawsOk h
end impl_form

namespace spec_l19Lengths
@[reducible] def cfg : Cfg := ⟨21, [(3, [0, 3, 4])], [(1, [0, 3, 4]), (0, [3])], [], [2], [], [101, 107, 112, 15, 21, 124, 76, 137, 28, 115, 91, 81, 130], [138, 140, 82, 6, 86, 85, 132]⟩
def q2 (pr : Prims) (R : Ending → World → Prop) : Exit → Env → World → Prop := fun ex e w => normQ ex (fun e w => contE pr cfg (sub (codeOf Try.f99) [1, 1, 1]) (fun e w => wpC pr PP cfg (DD pr) (sub (codeOf Try.f99) [1, 1, 1]) (retQ Try.f99.results.toList R) e w) e w) (retQ Try.f99.results.toList R) e w
def q3 (pr : Prims) (R : Ending → World → Prop) : Exit → Env → World → Prop := fun ex e w => blockQ ex 0 (q2 pr R) e w
def emb3 (t_0 : Sl) (out_3 : Sl) (k_4 : Int) : Env := [(0, Sl.v t_0), (3, Sl.v out_3), (4, vI k_4)]
def x0 (out_3 : Sl) : Env := [(3, Sl.v out_3)]
def S3 (pr : Prims) (Q : Exit → Env → World → Prop) : (Env → World → Prop) → Env → World → Prop := fun k e w => wpC pr PP cfg (DD pr) (sub (codeOf Try.f99) [1, 1, 0, 1, 0, 0]) (fun ex e w => normQ ex (fun e' w' => k (Env.restr e' (lookN cfg.loops (keyOf (sub (codeOf Try.f99) [1, 1, 0, 1, 0, 0])))) w') Q e w) e w
def B3 (pr : Prims) (t_0 : Sl) (out_3 : Sl) (k_4 : Int) (w : World) (k : Env → World → Prop) (Q : Exit → Env → World → Prop) : Prop :=
  S3 pr Q k (emb3 t_0 out_3 k_4) w
def L3 (pr : Prims) (t_0 : Sl) (out_3 : Sl) (k_4 : Int) (w : World) (Q : Exit → Env → World → Prop) : Prop :=
  pr.loop (S3 pr Q) (emb3 t_0 out_3 k_4) w
def E (pr : Prims) (t_0 : Sl) (w : World) (R : Ending → World → Prop) : Prop :=
  wpC pr PP cfg (DD pr) (codeOf Try.f99) (retQ Try.f99.results.toList R) (argE 0 [Sl.v t_0]) w
theorem B3_eq (pr : Prims) (t_0 : Sl) (out_3 : Sl) (k_4 : Int) (w : World) (k : Env → World → Prop) (Q : Exit → Env → World → Prop) : B3 pr t_0 out_3 k_4 w k Q = (
  bif decide (k_4 < (t_0.n : Int)) then (
  pr.idxK 1 t_0 k_4 fun (a4 : Addr) =>
  pr.load1 .sl a4 w fun (ξ5 : Sl) =>
  pr.sem1 .sl PP (Instr.buildSlice T_Sint 1 #[(0, vI (ξ5.n : Int))]) w fun (ρ6 : Sl) ω7 =>
  pr.sem1 .sl PP (Builtin.append_ #[T_Sint, T_Sint] T_Sint #[Sl.v out_3, Sl.v ρ6]) ω7 fun (ρ8 : Sl) ω9 =>
  k (emb3 t_0 ρ8 (w64 (k_4 + 1))) ω9)
  else (
  Q (.exit 0) (x0 out_3) w)) := by kernel_rfl
theorem B3_s (t_0 : Sl) (out_3 : Sl) (k_4 : Int) (w : World) (k : Env → World → Prop) (Q : Exit → Env → World → Prop) : B3 std t_0 out_3 k_4 w k Q = (
  bif decide (k_4 < (t_0.n : Int)) then (
  idxK 1 t_0 k_4 fun (a4 : Addr) =>
  load1 .sl a4 w fun (ξ5 : Sl) =>
  sem1 .sl PP (Instr.buildSlice T_Sint 1 #[(0, vI (ξ5.n : Int))]) w fun (ρ6 : Sl) ω7 =>
  sem1 .sl PP (Builtin.append_ #[T_Sint, T_Sint] T_Sint #[Sl.v out_3, Sl.v ρ6]) ω7 fun (ρ8 : Sl) ω9 =>
  k (emb3 t_0 ρ8 (w64 (k_4 + 1))) ω9)
  else (
  Q (.exit 0) (x0 out_3) w)) := B3_eq std t_0 out_3 k_4 w k Q
theorem L3_rule (t_0 : Sl) (out_3 : Sl) (k_4 : Int) (w : World) (Q : Exit → Env → World → Prop) (I : Sl → Int → World → Prop) (μ : Sl → Int → World → Nat) (h0 : I out_3 k_4 w)
    (h : ∀ (out_3 : Sl) (k_4 : Int) (w' : World), I out_3 k_4 w' → B3 std t_0 out_3 k_4 w' (fun e2 w2 => ∃ out_3_n k_4_n, e2 = emb3 t_0 out_3_n k_4_n ∧ I out_3_n k_4_n w2 ∧ μ out_3_n k_4_n w2 < μ out_3 k_4 w') Q) :
    L3 std t_0 out_3 k_4 w Q := by
  unfold L3
  refine LoopE.intro (σ := Sl × Int) (step := S3 std Q) (fun s => emb3 t_0 s.1 s.2) (fun s w => I s.1 s.2 w) (fun s w => μ s.1 s.2 w) (out_3, k_4) rfl h0 ?_
  intro s w' hI
  have h1 := h s.1 s.2 w' hI
  unfold B3 at h1
  simp only [Prod.exists]
  exact h1
theorem A3_0_eq (pr : Prims) (out_3 : Sl) (w : World) (R : Ending → World → Prop) : (q3 pr R) (.exit 0) (x0 out_3) w = (
  R (.returned (Sl.v out_3)) w) := by kernel_rfl
theorem A3_0_s (out_3 : Sl) (w : World) (R : Ending → World → Prop) : (q3 std R) (.exit 0) (x0 out_3) w = (
  R (.returned (Sl.v out_3)) w) := A3_0_eq std out_3 w R
theorem E_eq (pr : Prims) (t_0 : Sl) (w : World) (R : Ending → World → Prop) : E pr t_0 w R = (
  pr.sem1 .sl PP (Instr.buildSlice T_Sint 0 #[]) w fun (ρ0 : Sl) ω1 =>
  L3 pr t_0 ρ0 0 ω1 (q3 pr R)) := by kernel_rfl
theorem E_s (t_0 : Sl) (w : World) (R : Ending → World → Prop) : E std t_0 w R = (
  sem1 .sl PP (Instr.buildSlice T_Sint 0 #[]) w fun (ρ0 : Sl) ω1 =>
  L3 std t_0 ρ0 0 ω1 (q3 std R)) := E_eq std t_0 w R
theorem drawsOk : drawsOk PP cfg okD (codeOf Try.f99) = true := by kernel_rfl
theorem calls (t_0 : Sl) {w : World} {R : Ending → World → Prop} (h : E std t_0 w R) : Calls PP F.spec_l19Lengths #[Sl.v t_0] w R :=
  calls_of noCount mixed drawOk Try.func99 rfl (c := cfg) (args := [Sl.v t_0]) rfl (Nat.le_of_ble_eq_true (by kernel_rfl)) drawsOk h
end spec_l19Lengths

namespace impl_IsTableau
@[reducible] def cfg : Cfg := ⟨60, [(7, [0, 3, 4, 17, 18, 19, 24, 25, 26]), (4, [0, 17, 18, 19])], [(3, [0, 3, 4, 17, 18, 19, 24, 25, 26]), (2, [0, 17, 18, 19]), (1, [0, 17, 18, 19]), (0, [])], [], [2], [], [101, 107, 112, 15, 21, 124, 76, 137, 28, 115, 91, 81, 130], [138, 140, 82, 6, 86, 85, 132]⟩
def q8 (pr : Prims) (R : Ending → World → Prop) : Exit → Env → World → Prop := fun ex e w => normQ ex (fun e w => contE pr cfg (sub (codeOf Try.f60) [1, 1, 1]) (fun e w => wpC pr PP cfg (DD pr) (sub (codeOf Try.f60) [1, 1, 1]) (retQ Try.f60.results.toList R) e w) e w) (retQ Try.f60.results.toList R) e w
def q9 (pr : Prims) (R : Ending → World → Prop) : Exit → Env → World → Prop := fun ex e w => blockQ ex 0 (q8 pr R) e w
def q10 (pr : Prims) (k : Env → World → Prop) (Q : Exit → Env → World → Prop) : Exit → Env → World → Prop := fun ex e w => normQ ex (fun e w => contE pr cfg (sub (codeOf Try.f60) [1, 1, 0, 1, 0, 0, 1, 1, 1]) (fun e w => wpC pr PP cfg (DD pr) (sub (codeOf Try.f60) [1, 1, 0, 1, 0, 0, 1, 1, 1]) (fun ex e w => normQ ex (fun e' w' => k (Env.restr e' (lookN cfg.loops (keyOf (sub (codeOf Try.f60) [1, 1, 0, 1, 0, 0])))) w') Q e w) e w) e w) (fun ex e w => normQ ex (fun e' w' => k (Env.restr e' (lookN cfg.loops (keyOf (sub (codeOf Try.f60) [1, 1, 0, 1, 0, 0])))) w') Q e w) e w
def q11 (pr : Prims) (k : Env → World → Prop) (Q : Exit → Env → World → Prop) : Exit → Env → World → Prop := fun ex e w => blockQ ex 1 (q10 pr k Q) e w
def q14 (pr : Prims) (k : Env → World → Prop) (Q : Exit → Env → World → Prop) : Exit → Env → World → Prop := fun ex e w => blockQ ex 2 (q11 pr k Q) e w
def emb4 (t_0 : Sl) (t17 : Sl) (t18 : Int) (t19 : Int) : Env := [(0, Sl.v t_0), (17, Sl.v t17), (18, vI t18), (19, vI t19)]
def emb7 (t_0 : Sl) (i_3 : Int) (row_4 : Sl) (t17 : Sl) (t18 : Int) (t19 : Int) (t24 : Sl) (t25 : Int) (t26 : Int) : Env := [(0, Sl.v t_0), (3, vI i_3), (4, Sl.v row_4), (17, Sl.v t17), (18, vI t18), (19, vI t19), (24, Sl.v t24), (25, vI t25), (26, vI t26)]
def x2 (t_0 : Sl) (t17 : Sl) (t18 : Int) (t19 : Int) : Env := [(0, Sl.v t_0), (17, Sl.v t17), (18, vI t18), (19, vI t19)]
def x0 : Env := []
def S7 (pr : Prims) (Q : Exit → Env → World → Prop) : (Env → World → Prop) → Env → World → Prop := fun k e w => wpC pr PP cfg (DD pr) (sub (codeOf Try.f60) [1, 1, 0, 1, 0, 0, 1, 1, 0, 0, 1, 1, 0, 0]) (fun ex e w => normQ ex (fun e' w' => k (Env.restr e' (lookN cfg.loops (keyOf (sub (codeOf Try.f60) [1, 1, 0, 1, 0, 0, 1, 1, 0, 0, 1, 1, 0, 0])))) w') Q e w) e w
def S4 (pr : Prims) (Q : Exit → Env → World → Prop) : (Env → World → Prop) → Env → World → Prop := fun k e w => wpC pr PP cfg (DD pr) (sub (codeOf Try.f60) [1, 1, 0, 1, 0, 0]) (fun ex e w => normQ ex (fun e' w' => k (Env.restr e' (lookN cfg.loops (keyOf (sub (codeOf Try.f60) [1, 1, 0, 1, 0, 0])))) w') Q e w) e w
def B7 (pr : Prims) (t_0 : Sl) (i_3 : Int) (row_4 : Sl) (t17 : Sl) (t18 : Int) (t19 : Int) (t24 : Sl) (t25 : Int) (t26 : Int) (w : World) (k : Env → World → Prop) (Q : Exit → Env → World → Prop) : Prop :=
  S7 pr Q k (emb7 t_0 i_3 row_4 t17 t18 t19 t24 t25 t26) w
def L7 (pr : Prims) (t_0 : Sl) (i_3 : Int) (row_4 : Sl) (t17 : Sl) (t18 : Int) (t19 : Int) (t24 : Sl) (t25 : Int) (t26 : Int) (w : World) (Q : Exit → Env → World → Prop) : Prop :=
  pr.loop (S7 pr Q) (emb7 t_0 i_3 row_4 t17 t18 t19 t24 t25 t26) w
def B4 (pr : Prims) (t_0 : Sl) (t17 : Sl) (t18 : Int) (t19 : Int) (w : World) (k : Env → World → Prop) (Q : Exit → Env → World → Prop) : Prop :=
  S4 pr Q k (emb4 t_0 t17 t18 t19) w
def L4 (pr : Prims) (t_0 : Sl) (t17 : Sl) (t18 : Int) (t19 : Int) (w : World) (Q : Exit → Env → World → Prop) : Prop :=
  pr.loop (S4 pr Q) (emb4 t_0 t17 t18 t19) w
def E (pr : Prims) (t_0 : Sl) (w : World) (R : Ending → World → Prop) : Prop :=
  wpC pr PP cfg (DD pr) (codeOf Try.f60) (retQ Try.f60.results.toList R) (argE 0 [Sl.v t_0]) w
theorem B7_eq (pr : Prims) (t_0 : Sl) (i_3 : Int) (row_4 : Sl) (t17 : Sl) (t18 : Int) (t19 : Int) (t24 : Sl) (t25 : Int) (t26 : Int) (w : World) (k : Env → World → Prop) (Q : Exit → Env → World → Prop) : B7 pr t_0 i_3 row_4 t17 t18 t19 t24 t25 t26 w k Q = (
  bif decide (t26 < t25) then (
  pr.idxK 1 t24 t26 fun (a15 : Addr) =>
  pr.load1 (.int .i64) a15 w fun (ξ16 : Int) =>
  bif decide (t26 > 0) then (
  pr.idxK 1 row_4 (w64 (t26 - 1)) fun (a17 : Addr) =>
  pr.load1 (.int .i64) a17 w fun (ξ18 : Int) =>
  bif decide (ξ18 > ξ16) then (
  Q .ret [(2, .bool false)] w)
  else (
  bif decide (i_3 > 0) then (
  pr.idxK 1 t_0 (w64 (i_3 - 1)) fun (a19 : Addr) =>
  pr.load1 .sl a19 w fun (ξ20 : Sl) =>
  pr.idxK 1 ξ20 t26 fun (a21 : Addr) =>
  pr.load1 (.int .i64) a21 w fun (ξ22 : Int) =>
  bif decide (ξ22 > ξ16) then (
  Q .ret [(2, .bool false)] w)
  else (
  k (emb7 t_0 i_3 row_4 t17 t18 t19 t24 t25 (w64 (t26 + 1))) w))
  else (
  k (emb7 t_0 i_3 row_4 t17 t18 t19 t24 t25 (w64 (t26 + 1))) w)))
  else (
  bif decide (i_3 > 0) then (
  pr.idxK 1 t_0 (w64 (i_3 - 1)) fun (a23 : Addr) =>
  pr.load1 .sl a23 w fun (ξ24 : Sl) =>
  pr.idxK 1 ξ24 t26 fun (a25 : Addr) =>
  pr.load1 (.int .i64) a25 w fun (ξ26 : Int) =>
  bif decide (ξ26 > ξ16) then (
  Q .ret [(2, .bool false)] w)
  else (
  k (emb7 t_0 i_3 row_4 t17 t18 t19 t24 t25 (w64 (t26 + 1))) w))
  else (
  k (emb7 t_0 i_3 row_4 t17 t18 t19 t24 t25 (w64 (t26 + 1))) w)))
  else (
  Q (.exit 2) (x2 t_0 t17 t18 t19) w)) := by kernel_rfl
theorem B7_s (t_0 : Sl) (i_3 : Int) (row_4 : Sl) (t17 : Sl) (t18 : Int) (t19 : Int) (t24 : Sl) (t25 : Int) (t26 : Int) (w : World) (k : Env → World → Prop) (Q : Exit → Env → World → Prop) : B7 std t_0 i_3 row_4 t17 t18 t19 t24 t25 t26 w k Q = (
  bif decide (t26 < t25) then (
  idxK 1 t24 t26 fun (a15 : Addr) =>
  load1 (.int .i64) a15 w fun (ξ16 : Int) =>
  bif decide (t26 > 0) then (
  idxK 1 row_4 (w64 (t26 - 1)) fun (a17 : Addr) =>
  load1 (.int .i64) a17 w fun (ξ18 : Int) =>
  bif decide (ξ18 > ξ16) then (
  Q .ret [(2, .bool false)] w)
  else (
  bif decide (i_3 > 0) then (
  idxK 1 t_0 (w64 (i_3 - 1)) fun (a19 : Addr) =>
  load1 .sl a19 w fun (ξ20 : Sl) =>
  idxK 1 ξ20 t26 fun (a21 : Addr) =>
  load1 (.int .i64) a21 w fun (ξ22 : Int) =>
  bif decide (ξ22 > ξ16) then (
  Q .ret [(2, .bool false)] w)
  else (
  k (emb7 t_0 i_3 row_4 t17 t18 t19 t24 t25 (w64 (t26 + 1))) w))
  else (
  k (emb7 t_0 i_3 row_4 t17 t18 t19 t24 t25 (w64 (t26 + 1))) w)))
  else (
  bif decide (i_3 > 0) then (
  idxK 1 t_0 (w64 (i_3 - 1)) fun (a23 : Addr) =>
  load1 .sl a23 w fun (ξ24 : Sl) =>
  idxK 1 ξ24 t26 fun (a25 : Addr) =>
  load1 (.int .i64) a25 w fun (ξ26 : Int) =>
  bif decide (ξ26 > ξ16) then (
  Q .ret [(2, .bool false)] w)
  else (
  k (emb7 t_0 i_3 row_4 t17 t18 t19 t24 t25 (w64 (t26 + 1))) w))
  else (
  k (emb7 t_0 i_3 row_4 t17 t18 t19 t24 t25 (w64 (t26 + 1))) w)))
  else (
  Q (.exit 2) (x2 t_0 t17 t18 t19) w)) := B7_eq std t_0 i_3 row_4 t17 t18 t19 t24 t25 t26 w k Q
theorem L7_rule (t_0 : Sl) (i_3 : Int) (row_4 : Sl) (t17 : Sl) (t18 : Int) (t19 : Int) (t24 : Sl) (t25 : Int) (t26 : Int) (w : World) (Q : Exit → Env → World → Prop) (I : Int → World → Prop) (μ : Int → World → Nat) (h0 : I t26 w)
    (h : ∀ (t26 : Int) (w' : World), I t26 w' → B7 std t_0 i_3 row_4 t17 t18 t19 t24 t25 t26 w' (fun e2 w2 => ∃ t26_n, e2 = emb7 t_0 i_3 row_4 t17 t18 t19 t24 t25 t26_n ∧ I t26_n w2 ∧ μ t26_n w2 < μ t26 w') Q) :
    L7 std t_0 i_3 row_4 t17 t18 t19 t24 t25 t26 w Q := by
  unfold L7
  refine LoopE.intro (σ := Int) (step := S7 std Q) (fun s => emb7 t_0 i_3 row_4 t17 t18 t19 t24 t25 s) (fun s w => I s w) (fun s w => μ s w) t26 rfl h0 ?_
  intro s w' hI
  have h1 := h s w' hI
  unfold B7 at h1
  exact h1
theorem A7_2_eq (pr : Prims) (t_0 : Sl) (t17 : Sl) (t18 : Int) (t19 : Int) (w : World) (k : Env → World → Prop) (Q : Exit → Env → World → Prop) : (q14 pr k Q) (.exit 2) (x2 t_0 t17 t18 t19) w = (
  k (emb4 t_0 t17 t18 (w64 (t19 + 1))) w) := by kernel_rfl
theorem A7_2_s (t_0 : Sl) (t17 : Sl) (t18 : Int) (t19 : Int) (w : World) (k : Env → World → Prop) (Q : Exit → Env → World → Prop) : (q14 std k Q) (.exit 2) (x2 t_0 t17 t18 t19) w = (
  k (emb4 t_0 t17 t18 (w64 (t19 + 1))) w) := A7_2_eq std t_0 t17 t18 t19 w k Q
theorem R7_eq (pr : Prims) (v2 : Value) (w : World) (k : Env → World → Prop) (Q : Exit → Env → World → Prop) : (q14 pr k Q) .ret [(2, v2)] w = (
  Q .ret [(2, v2)] w) := by kernel_rfl
theorem R7_s (v2 : Value) (w : World) (k : Env → World → Prop) (Q : Exit → Env → World → Prop) : (q14 std k Q) .ret [(2, v2)] w = (
  Q .ret [(2, v2)] w) := R7_eq std v2 w k Q
theorem B4_eq (pr : Prims) (t_0 : Sl) (t17 : Sl) (t18 : Int) (t19 : Int) (w : World) (k : Env → World → Prop) (Q : Exit → Env → World → Prop) : B4 pr t_0 t17 t18 t19 w k Q = (
  bif decide (t19 < t18) then (
  pr.idxK 1 t17 t19 fun (a12 : Addr) =>
  pr.load1 .sl a12 w fun (ξ13 : Sl) =>
  L7 pr t_0 t19 ξ13 t17 t18 t19 ξ13 (ξ13.n : Int) 0 w (q14 pr k Q))
  else (
  Q (.exit 0) (x0) w)) := by kernel_rfl
theorem B4_s (t_0 : Sl) (t17 : Sl) (t18 : Int) (t19 : Int) (w : World) (k : Env → World → Prop) (Q : Exit → Env → World → Prop) : B4 std t_0 t17 t18 t19 w k Q = (
  bif decide (t19 < t18) then (
  idxK 1 t17 t19 fun (a12 : Addr) =>
  load1 .sl a12 w fun (ξ13 : Sl) =>
  L7 std t_0 t19 ξ13 t17 t18 t19 ξ13 (ξ13.n : Int) 0 w (q14 std k Q))
  else (
  Q (.exit 0) (x0) w)) := B4_eq std t_0 t17 t18 t19 w k Q
theorem L4_rule (t_0 : Sl) (t17 : Sl) (t18 : Int) (t19 : Int) (w : World) (Q : Exit → Env → World → Prop) (I : Int → World → Prop) (μ : Int → World → Nat) (h0 : I t19 w)
    (h : ∀ (t19 : Int) (w' : World), I t19 w' → B4 std t_0 t17 t18 t19 w' (fun e2 w2 => ∃ t19_n, e2 = emb4 t_0 t17 t18 t19_n ∧ I t19_n w2 ∧ μ t19_n w2 < μ t19 w') Q) :
    L4 std t_0 t17 t18 t19 w Q := by
  unfold L4
  refine LoopE.intro (σ := Int) (step := S4 std Q) (fun s => emb4 t_0 t17 t18 s) (fun s w => I s w) (fun s w => μ s w) t19 rfl h0 ?_
  intro s w' hI
  have h1 := h s w' hI
  unfold B4 at h1
  exact h1
theorem A4_0_eq (pr : Prims) (w : World) (R : Ending → World → Prop) : (q9 pr R) (.exit 0) (x0) w = (
  R (.returned (.bool true)) w) := by kernel_rfl
theorem A4_0_s (w : World) (R : Ending → World → Prop) : (q9 std R) (.exit 0) (x0) w = (
  R (.returned (.bool true)) w) := A4_0_eq std w R
theorem R4_eq (pr : Prims) (v2 : Value) (w : World) (R : Ending → World → Prop) : (q9 pr R) .ret [(2, v2)] w = (
  R (.returned (v2)) w) := by kernel_rfl
theorem R4_s (v2 : Value) (w : World) (R : Ending → World → Prop) : (q9 std R) .ret [(2, v2)] w = (
  R (.returned (v2)) w) := R4_eq std v2 w R
theorem E_eq (pr : Prims) (t_0 : Sl) (w : World) (R : Ending → World → Prop) : E pr t_0 w R = (
  pr.call1 .sl PP F.impl_form #[Sl.v t_0] w fun (ρ0 : Sl) ω1 =>
  pr.call1 .bool PP F.impl_isForm #[Sl.v ρ0, vI 8] ω1 fun (ρ2 : Bool) ω3 =>
  bif !ρ2 then (
  R (.returned (.bool false)) ω3)
  else (
  pr.call1 .sl PP F.slices_Concat___int_int_ #[Sl.v t_0] ω3 fun (ρ4 : Sl) ω5 =>
  pr.call1 .bool PP F.impl_isPerm #[Sl.v ρ4] ω5 fun (ρ6 : Bool) ω7 =>
  bif !ρ6 then (
  R (.returned (.bool false)) ω7)
  else (
  L4 pr t_0 t_0 (t_0.n : Int) 0 ω7 (q9 pr R)))) := by kernel_rfl
theorem E_s (t_0 : Sl) (w : World) (R : Ending → World → Prop) : E std t_0 w R = (
  call1 .sl PP F.impl_form #[Sl.v t_0] w fun (ρ0 : Sl) ω1 =>
  call1 .bool PP F.impl_isForm #[Sl.v ρ0, vI 8] ω1 fun (ρ2 : Bool) ω3 =>
  bif !ρ2 then (
  R (.returned (.bool false)) ω3)
  else (
  call1 .sl PP F.slices_Concat___int_int_ #[Sl.v t_0] ω3 fun (ρ4 : Sl) ω5 =>
  call1 .bool PP F.impl_isPerm #[Sl.v ρ4] ω5 fun (ρ6 : Bool) ω7 =>
  bif !ρ6 then (
  R (.returned (.bool false)) ω7)
  else (
  L4 std t_0 t_0 (t_0.n : Int) 0 ω7 (q9 std R)))) := E_eq std t_0 w R
theorem drawsOk : drawsOk PP cfg okD (codeOf Try.f60) = true := by kernel_rfl
theorem calls (t_0 : Sl) {w : World} {R : Ending → World → Prop} (h : E std t_0 w R) : Calls PP F.impl_IsTableau #[Sl.v t_0] w R :=
  calls_of noCount mixed drawOk Try.func60 rfl (c := cfg) (args := [Sl.v t_0]) rfl (Nat.le_of_ble_eq_true (by kernel_rfl)) drawsOk h
end impl_IsTableau

namespace spec_IsTableau
@[reducible] def cfg : Cfg := ⟨80, [(8, [0, 3, 4, 5]), (5, [0, 3, 4])], [(3, [0, 3, 4, 5]), (2, [0, 3, 4]), (1, [0, 3, 4]), (0, [3])], [], [2], [10], [101, 107, 112, 15, 21, 124, 76, 137, 28, 115, 91, 81, 130], [138, 140, 82, 6, 86, 85, 132]⟩
def q6 (pr : Prims) (R : Ending → World → Prop) : Exit → Env → World → Prop := fun ex e w => normQ ex (fun e w => contE pr cfg (sub (codeOf Try.f61) [1, 1, 1, 1]) (fun e w => wpC pr PP cfg (DD pr) (sub (codeOf Try.f61) [1, 1, 1, 1]) (retQ Try.f61.results.toList R) e w) e w) (retQ Try.f61.results.toList R) e w
def q7 (pr : Prims) (R : Ending → World → Prop) : Exit → Env → World → Prop := fun ex e w => blockQ ex 0 (q6 pr R) e w
def q8 (pr : Prims) (k : Env → World → Prop) (Q : Exit → Env → World → Prop) : Exit → Env → World → Prop := fun ex e w => normQ ex (fun e w => contE pr cfg (sub (codeOf Try.f61) [1, 1, 1, 0, 1, 0, 0, 1, 1]) (fun e w => wpC pr PP cfg (DD pr) (sub (codeOf Try.f61) [1, 1, 1, 0, 1, 0, 0, 1, 1]) (fun ex e w => normQ ex (fun e' w' => k (Env.restr e' (lookN cfg.loops (keyOf (sub (codeOf Try.f61) [1, 1, 1, 0, 1, 0, 0])))) w') Q e w) e w) e w) (fun ex e w => normQ ex (fun e' w' => k (Env.restr e' (lookN cfg.loops (keyOf (sub (codeOf Try.f61) [1, 1, 1, 0, 1, 0, 0])))) w') Q e w) e w
def q9 (pr : Prims) (k : Env → World → Prop) (Q : Exit → Env → World → Prop) : Exit → Env → World → Prop := fun ex e w => blockQ ex 1 (q8 pr k Q) e w
def q10 (pr : Prims) (k : Env → World → Prop) (Q : Exit → Env → World → Prop) : Exit → Env → World → Prop := fun ex e w => blockQ ex 2 (q9 pr k Q) e w
def emb5 (t_0 : Sl) (all_3 : Sl) (r_4 : Int) : Env := [(0, Sl.v t_0), (3, Sl.v all_3), (4, vI r_4)]
def emb8 (t_0 : Sl) (all_3 : Sl) (r_4 : Int) (c_5 : Int) : Env := [(0, Sl.v t_0), (3, Sl.v all_3), (4, vI r_4), (5, vI c_5)]
def x2 (t_0 : Sl) (all_3 : Sl) (r_4 : Int) : Env := [(0, Sl.v t_0), (3, Sl.v all_3), (4, vI r_4)]
def x0 (all_3 : Sl) : Env := [(3, Sl.v all_3)]
def S8 (pr : Prims) (Q : Exit → Env → World → Prop) : (Env → World → Prop) → Env → World → Prop := fun k e w => wpC pr PP cfg (DD pr) (sub (codeOf Try.f61) [1, 1, 1, 0, 1, 0, 0, 1, 0, 0, 1, 0, 0]) (fun ex e w => normQ ex (fun e' w' => k (Env.restr e' (lookN cfg.loops (keyOf (sub (codeOf Try.f61) [1, 1, 1, 0, 1, 0, 0, 1, 0, 0, 1, 0, 0])))) w') Q e w) e w
def S5 (pr : Prims) (Q : Exit → Env → World → Prop) : (Env → World → Prop) → Env → World → Prop := fun k e w => wpC pr PP cfg (DD pr) (sub (codeOf Try.f61) [1, 1, 1, 0, 1, 0, 0]) (fun ex e w => normQ ex (fun e' w' => k (Env.restr e' (lookN cfg.loops (keyOf (sub (codeOf Try.f61) [1, 1, 1, 0, 1, 0, 0])))) w') Q e w) e w
def B8 (pr : Prims) (t_0 : Sl) (all_3 : Sl) (r_4 : Int) (c_5 : Int) (w : World) (k : Env → World → Prop) (Q : Exit → Env → World → Prop) : Prop :=
  S8 pr Q k (emb8 t_0 all_3 r_4 c_5) w
def L8 (pr : Prims) (t_0 : Sl) (all_3 : Sl) (r_4 : Int) (c_5 : Int) (w : World) (Q : Exit → Env → World → Prop) : Prop :=
  pr.loop (S8 pr Q) (emb8 t_0 all_3 r_4 c_5) w
def B5 (pr : Prims) (t_0 : Sl) (all_3 : Sl) (r_4 : Int) (w : World) (k : Env → World → Prop) (Q : Exit → Env → World → Prop) : Prop :=
  S5 pr Q k (emb5 t_0 all_3 r_4) w
def L5 (pr : Prims) (t_0 : Sl) (all_3 : Sl) (r_4 : Int) (w : World) (Q : Exit → Env → World → Prop) : Prop :=
  pr.loop (S5 pr Q) (emb5 t_0 all_3 r_4) w
def E (pr : Prims) (t_0 : Sl) (w : World) (R : Ending → World → Prop) : Prop :=
  wpC pr PP cfg (DD pr) (codeOf Try.f61) (retQ Try.f61.results.toList R) (argE 0 [Sl.v t_0]) w
theorem B8_eq (pr : Prims) (t_0 : Sl) (all_3 : Sl) (r_4 : Int) (c_5 : Int) (w : World) (k : Env → World → Prop) (Q : Exit → Env → World → Prop) : B8 pr t_0 all_3 r_4 c_5 w k Q = (
  pr.idxK 1 t_0 r_4 fun (a11 : Addr) =>
  pr.load1 .sl a11 w fun (ξ12 : Sl) =>
  bif decide (c_5 < (ξ12.n : Int)) then (
  bif decide (c_5 > 0) then (
  pr.idxK 1 t_0 r_4 fun (a13 : Addr) =>
  pr.load1 .sl a13 w fun (ξ14 : Sl) =>
  pr.idxK 1 ξ14 c_5 fun (a15 : Addr) =>
  pr.load1 (.int .i64) a15 w fun (ξ16 : Int) =>
  pr.idxK 1 t_0 r_4 fun (a17 : Addr) =>
  pr.load1 .sl a17 w fun (ξ18 : Sl) =>
  pr.idxK 1 ξ18 (w64 (c_5 - 1)) fun (a19 : Addr) =>
  pr.load1 (.int .i64) a19 w fun (ξ20 : Int) =>
  bif decide (ξ16 ≤ ξ20) then (
  pr.drewAll w fun ω21 =>
  Q .ret [(2, .bool false)] ω21)
  else (
  bif decide (r_4 > 0) then (
  pr.idxK 1 t_0 r_4 fun (a22 : Addr) =>
  pr.load1 .sl a22 w fun (ξ23 : Sl) =>
  pr.idxK 1 ξ23 c_5 fun (a24 : Addr) =>
  pr.load1 (.int .i64) a24 w fun (ξ25 : Int) =>
  pr.idxK 1 t_0 (w64 (r_4 - 1)) fun (a26 : Addr) =>
  pr.load1 .sl a26 w fun (ξ27 : Sl) =>
  pr.idxK 1 ξ27 c_5 fun (a28 : Addr) =>
  pr.load1 (.int .i64) a28 w fun (ξ29 : Int) =>
  pr.drewAll w fun ω30 =>
  bif decide (ξ25 ≤ ξ29) then (
  Q .ret [(2, .bool false)] ω30)
  else (
  pr.idxK 1 t_0 r_4 fun (a31 : Addr) =>
  pr.load1 .sl a31 ω30 fun (ξ32 : Sl) =>
  pr.idxK 1 ξ32 c_5 fun (a33 : Addr) =>
  pr.load1 (.int .i64) a33 ω30 fun (ξ34 : Int) =>
  pr.sem1 .sl PP (Instr.buildSlice T_Sint 1 #[(0, vI ξ34)]) ω30 fun (ρ35 : Sl) ω36 =>
  pr.sem1 .sl PP (Builtin.append_ #[T_Sint, T_Sint] T_Sint #[Sl.v all_3, Sl.v ρ35]) ω36 fun (ρ37 : Sl) ω38 =>
  k (emb8 t_0 ρ37 r_4 (w64 (c_5 + 1))) ω38))
  else (
  pr.drewAll w fun ω39 =>
  pr.idxK 1 t_0 r_4 fun (a40 : Addr) =>
  pr.load1 .sl a40 ω39 fun (ξ41 : Sl) =>
  pr.idxK 1 ξ41 c_5 fun (a42 : Addr) =>
  pr.load1 (.int .i64) a42 ω39 fun (ξ43 : Int) =>
  pr.sem1 .sl PP (Instr.buildSlice T_Sint 1 #[(0, vI ξ43)]) ω39 fun (ρ44 : Sl) ω45 =>
  pr.sem1 .sl PP (Builtin.append_ #[T_Sint, T_Sint] T_Sint #[Sl.v all_3, Sl.v ρ44]) ω45 fun (ρ46 : Sl) ω47 =>
  k (emb8 t_0 ρ46 r_4 (w64 (c_5 + 1))) ω47)))
  else (
  bif decide (r_4 > 0) then (
  pr.idxK 1 t_0 r_4 fun (a48 : Addr) =>
  pr.load1 .sl a48 w fun (ξ49 : Sl) =>
  pr.idxK 1 ξ49 c_5 fun (a50 : Addr) =>
  pr.load1 (.int .i64) a50 w fun (ξ51 : Int) =>
  pr.idxK 1 t_0 (w64 (r_4 - 1)) fun (a52 : Addr) =>
  pr.load1 .sl a52 w fun (ξ53 : Sl) =>
  pr.idxK 1 ξ53 c_5 fun (a54 : Addr) =>
  pr.load1 (.int .i64) a54 w fun (ξ55 : Int) =>
  pr.drewAll w fun ω56 =>
  bif decide (ξ51 ≤ ξ55) then (
  Q .ret [(2, .bool false)] ω56)
  else (
  pr.idxK 1 t_0 r_4 fun (a57 : Addr) =>
  pr.load1 .sl a57 ω56 fun (ξ58 : Sl) =>
  pr.idxK 1 ξ58 c_5 fun (a59 : Addr) =>
  pr.load1 (.int .i64) a59 ω56 fun (ξ60 : Int) =>
  pr.sem1 .sl PP (Instr.buildSlice T_Sint 1 #[(0, vI ξ60)]) ω56 fun (ρ61 : Sl) ω62 =>
  pr.sem1 .sl PP (Builtin.append_ #[T_Sint, T_Sint] T_Sint #[Sl.v all_3, Sl.v ρ61]) ω62 fun (ρ63 : Sl) ω64 =>
  k (emb8 t_0 ρ63 r_4 (w64 (c_5 + 1))) ω64))
  else (
  pr.drewAll w fun ω65 =>
  pr.idxK 1 t_0 r_4 fun (a66 : Addr) =>
  pr.load1 .sl a66 ω65 fun (ξ67 : Sl) =>
  pr.idxK 1 ξ67 c_5 fun (a68 : Addr) =>
  pr.load1 (.int .i64) a68 ω65 fun (ξ69 : Int) =>
  pr.sem1 .sl PP (Instr.buildSlice T_Sint 1 #[(0, vI ξ69)]) ω65 fun (ρ70 : Sl) ω71 =>
  pr.sem1 .sl PP (Builtin.append_ #[T_Sint, T_Sint] T_Sint #[Sl.v all_3, Sl.v ρ70]) ω71 fun (ρ72 : Sl) ω73 =>
  k (emb8 t_0 ρ72 r_4 (w64 (c_5 + 1))) ω73)))
  else (
  Q (.exit 2) (x2 t_0 all_3 r_4) w)) := by kernel_rfl
theorem B8_s (t_0 : Sl) (all_3 : Sl) (r_4 : Int) (c_5 : Int) (w : World) (k : Env → World → Prop) (Q : Exit → Env → World → Prop) : B8 std t_0 all_3 r_4 c_5 w k Q = (
  idxK 1 t_0 r_4 fun (a11 : Addr) =>
  load1 .sl a11 w fun (ξ12 : Sl) =>
  bif decide (c_5 < (ξ12.n : Int)) then (
  bif decide (c_5 > 0) then (
  idxK 1 t_0 r_4 fun (a13 : Addr) =>
  load1 .sl a13 w fun (ξ14 : Sl) =>
  idxK 1 ξ14 c_5 fun (a15 : Addr) =>
  load1 (.int .i64) a15 w fun (ξ16 : Int) =>
  idxK 1 t_0 r_4 fun (a17 : Addr) =>
  load1 .sl a17 w fun (ξ18 : Sl) =>
  idxK 1 ξ18 (w64 (c_5 - 1)) fun (a19 : Addr) =>
  load1 (.int .i64) a19 w fun (ξ20 : Int) =>
  bif decide (ξ16 ≤ ξ20) then (
  drewAll w fun ω21 =>
  Q .ret [(2, .bool false)] ω21)
  else (
  bif decide (r_4 > 0) then (
  idxK 1 t_0 r_4 fun (a22 : Addr) =>
  load1 .sl a22 w fun (ξ23 : Sl) =>
  idxK 1 ξ23 c_5 fun (a24 : Addr) =>
  load1 (.int .i64) a24 w fun (ξ25 : Int) =>
  idxK 1 t_0 (w64 (r_4 - 1)) fun (a26 : Addr) =>
  load1 .sl a26 w fun (ξ27 : Sl) =>
  idxK 1 ξ27 c_5 fun (a28 : Addr) =>
  load1 (.int .i64) a28 w fun (ξ29 : Int) =>
  drewAll w fun ω30 =>
  bif decide (ξ25 ≤ ξ29) then (
  Q .ret [(2, .bool false)] ω30)
  else (
  idxK 1 t_0 r_4 fun (a31 : Addr) =>
  load1 .sl a31 ω30 fun (ξ32 : Sl) =>
  idxK 1 ξ32 c_5 fun (a33 : Addr) =>
  load1 (.int .i64) a33 ω30 fun (ξ34 : Int) =>
  sem1 .sl PP (Instr.buildSlice T_Sint 1 #[(0, vI ξ34)]) ω30 fun (ρ35 : Sl) ω36 =>
  sem1 .sl PP (Builtin.append_ #[T_Sint, T_Sint] T_Sint #[Sl.v all_3, Sl.v ρ35]) ω36 fun (ρ37 : Sl) ω38 =>
  k (emb8 t_0 ρ37 r_4 (w64 (c_5 + 1))) ω38))
  else (
  drewAll w fun ω39 =>
  idxK 1 t_0 r_4 fun (a40 : Addr) =>
  load1 .sl a40 ω39 fun (ξ41 : Sl) =>
  idxK 1 ξ41 c_5 fun (a42 : Addr) =>
  load1 (.int .i64) a42 ω39 fun (ξ43 : Int) =>
  sem1 .sl PP (Instr.buildSlice T_Sint 1 #[(0, vI ξ43)]) ω39 fun (ρ44 : Sl) ω45 =>
  sem1 .sl PP (Builtin.append_ #[T_Sint, T_Sint] T_Sint #[Sl.v all_3, Sl.v ρ44]) ω45 fun (ρ46 : Sl) ω47 =>
  k (emb8 t_0 ρ46 r_4 (w64 (c_5 + 1))) ω47)))
  else (
  bif decide (r_4 > 0) then (
  idxK 1 t_0 r_4 fun (a48 : Addr) =>
  load1 .sl a48 w fun (ξ49 : Sl) =>
  idxK 1 ξ49 c_5 fun (a50 : Addr) =>
  load1 (.int .i64) a50 w fun (ξ51 : Int) =>
  idxK 1 t_0 (w64 (r_4 - 1)) fun (a52 : Addr) =>
  load1 .sl a52 w fun (ξ53 : Sl) =>
  idxK 1 ξ53 c_5 fun (a54 : Addr) =>
  load1 (.int .i64) a54 w fun (ξ55 : Int) =>
  drewAll w fun ω56 =>
  bif decide (ξ51 ≤ ξ55) then (
  Q .ret [(2, .bool false)] ω56)
  else (
  idxK 1 t_0 r_4 fun (a57 : Addr) =>
  load1 .sl a57 ω56 fun (ξ58 : Sl) =>
  idxK 1 ξ58 c_5 fun (a59 : Addr) =>
  load1 (.int .i64) a59 ω56 fun (ξ60 : Int) =>
  sem1 .sl PP (Instr.buildSlice T_Sint 1 #[(0, vI ξ60)]) ω56 fun (ρ61 : Sl) ω62 =>
  sem1 .sl PP (Builtin.append_ #[T_Sint, T_Sint] T_Sint #[Sl.v all_3, Sl.v ρ61]) ω62 fun (ρ63 : Sl) ω64 =>
  k (emb8 t_0 ρ63 r_4 (w64 (c_5 + 1))) ω64))
  else (
  drewAll w fun ω65 =>
  idxK 1 t_0 r_4 fun (a66 : Addr) =>
  load1 .sl a66 ω65 fun (ξ67 : Sl) =>
  idxK 1 ξ67 c_5 fun (a68 : Addr) =>
  load1 (.int .i64) a68 ω65 fun (ξ69 : Int) =>
  sem1 .sl PP (Instr.buildSlice T_Sint 1 #[(0, vI ξ69)]) ω65 fun (ρ70 : Sl) ω71 =>
  sem1 .sl PP (Builtin.append_ #[T_Sint, T_Sint] T_Sint #[Sl.v all_3, Sl.v ρ70]) ω71 fun (ρ72 : Sl) ω73 =>
  k (emb8 t_0 ρ72 r_4 (w64 (c_5 + 1))) ω73)))
  else (
  Q (.exit 2) (x2 t_0 all_3 r_4) w)) := B8_eq std t_0 all_3 r_4 c_5 w k Q
theorem L8_rule (t_0 : Sl) (all_3 : Sl) (r_4 : Int) (c_5 : Int) (w : World) (Q : Exit → Env → World → Prop) (I : Sl → Int → World → Prop) (μ : Sl → Int → World → Nat) (h0 : I all_3 c_5 w)
    (h : ∀ (all_3 : Sl) (c_5 : Int) (w' : World), I all_3 c_5 w' → B8 std t_0 all_3 r_4 c_5 w' (fun e2 w2 => ∃ all_3_n c_5_n, e2 = emb8 t_0 all_3_n r_4 c_5_n ∧ I all_3_n c_5_n w2 ∧ μ all_3_n c_5_n w2 < μ all_3 c_5 w') Q) :
    L8 std t_0 all_3 r_4 c_5 w Q := by
  unfold L8
  refine LoopE.intro (σ := Sl × Int) (step := S8 std Q) (fun s => emb8 t_0 s.1 r_4 s.2) (fun s w => I s.1 s.2 w) (fun s w => μ s.1 s.2 w) (all_3, c_5) rfl h0 ?_
  intro s w' hI
  have h1 := h s.1 s.2 w' hI
  unfold B8 at h1
  simp only [Prod.exists]
  exact h1
theorem A8_2_eq (pr : Prims) (t_0 : Sl) (all_3 : Sl) (r_4 : Int) (w : World) (k : Env → World → Prop) (Q : Exit → Env → World → Prop) : (q10 pr k Q) (.exit 2) (x2 t_0 all_3 r_4) w = (
  k (emb5 t_0 all_3 (w64 (r_4 + 1))) w) := by kernel_rfl
theorem A8_2_s (t_0 : Sl) (all_3 : Sl) (r_4 : Int) (w : World) (k : Env → World → Prop) (Q : Exit → Env → World → Prop) : (q10 std k Q) (.exit 2) (x2 t_0 all_3 r_4) w = (
  k (emb5 t_0 all_3 (w64 (r_4 + 1))) w) := A8_2_eq std t_0 all_3 r_4 w k Q
theorem R8_eq (pr : Prims) (v2 : Value) (w : World) (k : Env → World → Prop) (Q : Exit → Env → World → Prop) : (q10 pr k Q) .ret [(2, v2)] w = (
  Q .ret [(2, v2)] w) := by kernel_rfl
theorem R8_s (v2 : Value) (w : World) (k : Env → World → Prop) (Q : Exit → Env → World → Prop) : (q10 std k Q) .ret [(2, v2)] w = (
  Q .ret [(2, v2)] w) := R8_eq std v2 w k Q
theorem B5_eq (pr : Prims) (t_0 : Sl) (all_3 : Sl) (r_4 : Int) (w : World) (k : Env → World → Prop) (Q : Exit → Env → World → Prop) : B5 pr t_0 all_3 r_4 w k Q = (
  bif decide (r_4 < (t_0.n : Int)) then (
  L8 pr t_0 all_3 r_4 0 w (q10 pr k Q))
  else (
  Q (.exit 0) (x0 all_3) w)) := by kernel_rfl
theorem B5_s (t_0 : Sl) (all_3 : Sl) (r_4 : Int) (w : World) (k : Env → World → Prop) (Q : Exit → Env → World → Prop) : B5 std t_0 all_3 r_4 w k Q = (
  bif decide (r_4 < (t_0.n : Int)) then (
  L8 std t_0 all_3 r_4 0 w (q10 std k Q))
  else (
  Q (.exit 0) (x0 all_3) w)) := B5_eq std t_0 all_3 r_4 w k Q
theorem L5_rule (t_0 : Sl) (all_3 : Sl) (r_4 : Int) (w : World) (Q : Exit → Env → World → Prop) (I : Sl → Int → World → Prop) (μ : Sl → Int → World → Nat) (h0 : I all_3 r_4 w)
    (h : ∀ (all_3 : Sl) (r_4 : Int) (w' : World), I all_3 r_4 w' → B5 std t_0 all_3 r_4 w' (fun e2 w2 => ∃ all_3_n r_4_n, e2 = emb5 t_0 all_3_n r_4_n ∧ I all_3_n r_4_n w2 ∧ μ all_3_n r_4_n w2 < μ all_3 r_4 w') Q) :
    L5 std t_0 all_3 r_4 w Q := by
  unfold L5
  refine LoopE.intro (σ := Sl × Int) (step := S5 std Q) (fun s => emb5 t_0 s.1 s.2) (fun s w => I s.1 s.2 w) (fun s w => μ s.1 s.2 w) (all_3, r_4) rfl h0 ?_
  intro s w' hI
  have h1 := h s.1 s.2 w' hI
  unfold B5 at h1
  simp only [Prod.exists]
  exact h1
theorem A5_0_eq (pr : Prims) (all_3 : Sl) (w : World) (R : Ending → World → Prop) : (q7 pr R) (.exit 0) (x0 all_3) w = (
  pr.call1 .bool PP F.spec_IsPerm #[Sl.v all_3] w fun (ρ74 : Bool) ω75 =>
  R (.returned (.bool ρ74)) ω75) := by kernel_rfl
theorem A5_0_s (all_3 : Sl) (w : World) (R : Ending → World → Prop) : (q7 std R) (.exit 0) (x0 all_3) w = (
  call1 .bool PP F.spec_IsPerm #[Sl.v all_3] w fun (ρ74 : Bool) ω75 =>
  R (.returned (.bool ρ74)) ω75) := A5_0_eq std all_3 w R
theorem R5_eq (pr : Prims) (v2 : Value) (w : World) (R : Ending → World → Prop) : (q7 pr R) .ret [(2, v2)] w = (
  R (.returned (v2)) w) := by kernel_rfl
theorem R5_s (v2 : Value) (w : World) (R : Ending → World → Prop) : (q7 std R) .ret [(2, v2)] w = (
  R (.returned (v2)) w) := R5_eq std v2 w R
theorem E_eq (pr : Prims) (t_0 : Sl) (w : World) (R : Ending → World → Prop) : E pr t_0 w R = (
  pr.call1 .sl PP F.spec_l19Lengths #[Sl.v t_0] w fun (ρ0 : Sl) ω1 =>
  pr.call1 .bool PP F.spec_l19Form #[Sl.v ρ0, vI 8] ω1 fun (ρ2 : Bool) ω3 =>
  bif !ρ2 then (
  R (.returned (.bool false)) ω3)
  else (
  pr.sem1 .sl PP (Instr.buildSlice T_Sint 0 #[]) ω3 fun (ρ4 : Sl) ω5 =>
  L5 pr t_0 ρ4 0 ω5 (q7 pr R))) := by kernel_rfl
theorem E_s (t_0 : Sl) (w : World) (R : Ending → World → Prop) : E std t_0 w R = (
  call1 .sl PP F.spec_l19Lengths #[Sl.v t_0] w fun (ρ0 : Sl) ω1 =>
  call1 .bool PP F.spec_l19Form #[Sl.v ρ0, vI 8] ω1 fun (ρ2 : Bool) ω3 =>
  bif !ρ2 then (
  R (.returned (.bool false)) ω3)
  else (
  sem1 .sl PP (Instr.buildSlice T_Sint 0 #[]) ω3 fun (ρ4 : Sl) ω5 =>
  L5 std t_0 ρ4 0 ω5 (q7 std R))) := E_eq std t_0 w R
theorem drawsOk : drawsOk PP cfg okD (codeOf Try.f61) = true := by kernel_rfl
theorem calls (t_0 : Sl) {w : World} {R : Ending → World → Prop} (h : E std t_0 w R) : Calls PP F.spec_IsTableau #[Sl.v t_0] w R :=
  calls_of noCount mixed drawOk Try.func61 rfl (c := cfg) (args := [Sl.v t_0]) rfl (Nat.le_of_ble_eq_true (by kernel_rfl)) drawsOk h
end spec_IsTableau

namespace impl_FormOf
@[reducible] def cfg : Cfg := ⟨8, [], [], [], [2], [], [101, 107, 112, 15, 21, 124, 76, 137, 28, 115, 91, 81, 130], [138, 140, 82, 6, 86, 85, 132]⟩
def E (pr : Prims) (t_0 : Sl) (w : World) (R : Ending → World → Prop) : Prop :=
  wpC pr PP cfg (DD pr) (codeOf Try.f62) (retQ Try.f62.results.toList R) (argE 0 [Sl.v t_0]) w
theorem E_eq (pr : Prims) (t_0 : Sl) (w : World) (R : Ending → World → Prop) : E pr t_0 w R = (
  pr.call1 .bool PP F.impl_IsTableau #[Sl.v t_0] w fun (ρ0 : Bool) ω1 =>
  bif !ρ0 then (
  R (.returned (Sl.v Sl.nil)) ω1)
  else (
  pr.call1 .sl PP F.impl_form #[Sl.v t_0] ω1 fun (ρ2 : Sl) ω3 =>
  R (.returned (Sl.v ρ2)) ω3)) := by kernel_rfl
theorem E_s (t_0 : Sl) (w : World) (R : Ending → World → Prop) : E std t_0 w R = (
  call1 .bool PP F.impl_IsTableau #[Sl.v t_0] w fun (ρ0 : Bool) ω1 =>
  bif !ρ0 then (
  R (.returned (Sl.v Sl.nil)) ω1)
  else (
  call1 .sl PP F.impl_form #[Sl.v t_0] ω1 fun (ρ2 : Sl) ω3 =>
  R (.returned (Sl.v ρ2)) ω3)) := E_eq std t_0 w R
theorem drawsOk : drawsOk PP cfg okD (codeOf Try.f62) = true := by kernel_rfl
theorem calls (t_0 : Sl) {w : World} {R : Ending → World → Prop} (h : E std t_0 w R) : Calls PP F.impl_FormOf #[Sl.v t_0] w R :=
  calls_of noCount mixed drawOk Try.func62 rfl (c := cfg) (args := [Sl.v t_0]) rfl (Nat.le_of_ble_eq_true (by kernel_rfl)) drawsOk h
end impl_FormOf

namespace spec_FormOf
@[reducible] def cfg : Cfg := ⟨9, [], [], [], [2], [], [101, 107, 112, 15, 21, 124, 76, 137, 28, 115, 91, 81, 130], [138, 140, 82, 6, 86, 85, 132]⟩
def E (pr : Prims) (t_0 : Sl) (w : World) (R : Ending → World → Prop) : Prop :=
  wpC pr PP cfg (DD pr) (codeOf Try.f46) (retQ Try.f46.results.toList R) (argE 0 [Sl.v t_0]) w
theorem E_eq (pr : Prims) (t_0 : Sl) (w : World) (R : Ending → World → Prop) : E pr t_0 w R = (
  pr.call1 .bool PP F.spec_IsTableau #[Sl.v t_0] w fun (ρ0 : Bool) ω1 =>
  bif !ρ0 then (
  pr.sem1 .sl PP (Instr.buildSlice T_Sint 0 #[]) ω1 fun (ρ2 : Sl) ω3 =>
  R (.returned (Sl.v ρ2)) ω3)
  else (
  pr.call1 .sl PP F.spec_l19Lengths #[Sl.v t_0] ω1 fun (ρ4 : Sl) ω5 =>
  R (.returned (Sl.v ρ4)) ω5)) := by kernel_rfl
theorem E_s (t_0 : Sl) (w : World) (R : Ending → World → Prop) : E std t_0 w R = (
  call1 .bool PP F.spec_IsTableau #[Sl.v t_0] w fun (ρ0 : Bool) ω1 =>
  bif !ρ0 then (
  sem1 .sl PP (Instr.buildSlice T_Sint 0 #[]) ω1 fun (ρ2 : Sl) ω3 =>
  R (.returned (Sl.v ρ2)) ω3)
  else (
  call1 .sl PP F.spec_l19Lengths #[Sl.v t_0] ω1 fun (ρ4 : Sl) ω5 =>
  R (.returned (Sl.v ρ4)) ω5)) := E_eq std t_0 w R
theorem drawsOk : drawsOk PP cfg okD (codeOf Try.f46) = true := by kernel_rfl
theorem calls (t_0 : Sl) {w : World} {R : Ending → World → Prop} (h : E std t_0 w R) : Calls PP F.spec_FormOf #[Sl.v t_0] w R :=
  calls_of noCount mixed drawOk Try.func46 rfl (c := cfg) (args := [Sl.v t_0]) rfl (Nat.le_of_ble_eq_true (by kernel_rfl)) drawsOk h
end spec_FormOf

namespace impl_TurnTableau
@[reducible] def cfg : Cfg := ⟨46, [(8, [4, 13, 14, 15, 19, 20, 21]), (5, [4, 13, 14, 15])], [(3, [4, 13, 14, 15, 19, 20, 21]), (2, [4, 13, 14, 15]), (1, [4, 13, 14, 15]), (0, [4])], [(12, [4, 7, 8, 13, 14, 15, 19, 20, 21])], [2, 3], [], [101, 107, 112, 15, 21, 124, 76, 137, 28, 115, 91, 81, 130], [138, 140, 82, 6, 86, 85, 132]⟩
def q4 (pr : Prims) (R : Ending → World → Prop) : Exit → Env → World → Prop := fun ex e w => normQ ex (fun e w => contE pr cfg (sub (codeOf Try.f53) [1, 1, 1, 1]) (fun e w => wpC pr PP cfg (DD pr) (sub (codeOf Try.f53) [1, 1, 1, 1]) (retQ Try.f53.results.toList R) e w) e w) (retQ Try.f53.results.toList R) e w
def q5 (pr : Prims) (R : Ending → World → Prop) : Exit → Env → World → Prop := fun ex e w => blockQ ex 0 (q4 pr R) e w
def q6 (pr : Prims) (k : Env → World → Prop) (Q : Exit → Env → World → Prop) : Exit → Env → World → Prop := fun ex e w => normQ ex (fun e w => contE pr cfg (sub (codeOf Try.f53) [1, 1, 1, 0, 1, 0, 0, 1, 1, 1]) (fun e w => wpC pr PP cfg (DD pr) (sub (codeOf Try.f53) [1, 1, 1, 0, 1, 0, 0, 1, 1, 1]) (fun ex e w => normQ ex (fun e' w' => k (Env.restr e' (lookN cfg.loops (keyOf (sub (codeOf Try.f53) [1, 1, 1, 0, 1, 0, 0])))) w') Q e w) e w) e w) (fun ex e w => normQ ex (fun e' w' => k (Env.restr e' (lookN cfg.loops (keyOf (sub (codeOf Try.f53) [1, 1, 1, 0, 1, 0, 0])))) w') Q e w) e w
def q7 (pr : Prims) (k : Env → World → Prop) (Q : Exit → Env → World → Prop) : Exit → Env → World → Prop := fun ex e w => blockQ ex 1 (q6 pr k Q) e w
def q10 (pr : Prims) (k : Env → World → Prop) (Q : Exit → Env → World → Prop) : Exit → Env → World → Prop := fun ex e w => blockQ ex 2 (q7 pr k Q) e w
def q11 (pr : Prims) (k : Env → World → Prop) (Q : Exit → Env → World → Prop) : Exit → Env → World → Prop := fun ex e w => normQ ex (fun e w => contE pr cfg (sub (codeOf Try.f53) [1, 1, 1, 0, 1, 0, 0, 1, 1, 0, 0, 1, 1, 0, 0, 1, 1, 1]) (fun e w => wpC pr PP cfg (DD pr) (sub (codeOf Try.f53) [1, 1, 1, 0, 1, 0, 0, 1, 1, 0, 0, 1, 1, 0, 0, 1, 1, 1]) (fun ex e w => normQ ex (fun e' w' => k (Env.restr e' (lookN cfg.loops (keyOf (sub (codeOf Try.f53) [1, 1, 1, 0, 1, 0, 0, 1, 1, 0, 0, 1, 1, 0, 0])))) w') Q e w) e w) e w) (fun ex e w => normQ ex (fun e' w' => k (Env.restr e' (lookN cfg.loops (keyOf (sub (codeOf Try.f53) [1, 1, 1, 0, 1, 0, 0, 1, 1, 0, 0, 1, 1, 0, 0])))) w') Q e w) e w
def q12 (pr : Prims) (k : Env → World → Prop) (Q : Exit → Env → World → Prop) : Exit → Env → World → Prop := fun ex e w => blockQ ex 3 (q11 pr k Q) e w
def q15 (pr : Prims) (k : Env → World → Prop) (Q : Exit → Env → World → Prop) : Exit → Env → World → Prop := fun ex e w => normQ ex (fun e w => contE pr cfg (sub (codeOf Try.f53) [1, 1, 1, 0, 1, 0, 0, 1, 1, 0, 0, 1, 1, 0, 0, 1, 1, 0, 0, 1, 1]) (fun e w => wpC pr PP cfg (DD pr) (sub (codeOf Try.f53) [1, 1, 1, 0, 1, 0, 0, 1, 1, 0, 0, 1, 1, 0, 0, 1, 1, 0, 0, 1, 1]) (q12 pr k Q) e w) e w) (q12 pr k Q) e w
def emb5 (out_4 : Sl) (t13 : Sl) (t14 : Int) (t15 : Int) : Env := [(4, Sl.v out_4), (13, Sl.v t13), (14, vI t14), (15, vI t15)]
def emb8 (out_4 : Sl) (t13 : Sl) (t14 : Int) (t15 : Int) (t19 : Sl) (t20 : Int) (t21 : Int) : Env := [(4, Sl.v out_4), (13, Sl.v t13), (14, vI t14), (15, vI t15), (19, Sl.v t19), (20, vI t20), (21, vI t21)]
def j12 (out_4 : Sl) (j_7 : Int) (v_8 : Int) (t13 : Sl) (t14 : Int) (t15 : Int) (t19 : Sl) (t20 : Int) (t21 : Int) : Env := [(4, Sl.v out_4), (7, vI j_7), (8, vI v_8), (13, Sl.v t13), (14, vI t14), (15, vI t15), (19, Sl.v t19), (20, vI t20), (21, vI t21)]
def x2 (out_4 : Sl) (t13 : Sl) (t14 : Int) (t15 : Int) : Env := [(4, Sl.v out_4), (13, Sl.v t13), (14, vI t14), (15, vI t15)]
def x0 (out_4 : Sl) : Env := [(4, Sl.v out_4)]
def S8 (pr : Prims) (Q : Exit → Env → World → Prop) : (Env → World → Prop) → Env → World → Prop := fun k e w => wpC pr PP cfg (DD pr) (sub (codeOf Try.f53) [1, 1, 1, 0, 1, 0, 0, 1, 1, 0, 0, 1, 1, 0, 0]) (fun ex e w => normQ ex (fun e' w' => k (Env.restr e' (lookN cfg.loops (keyOf (sub (codeOf Try.f53) [1, 1, 1, 0, 1, 0, 0, 1, 1, 0, 0, 1, 1, 0, 0])))) w') Q e w) e w
def S5 (pr : Prims) (Q : Exit → Env → World → Prop) : (Env → World → Prop) → Env → World → Prop := fun k e w => wpC pr PP cfg (DD pr) (sub (codeOf Try.f53) [1, 1, 1, 0, 1, 0, 0]) (fun ex e w => normQ ex (fun e' w' => k (Env.restr e' (lookN cfg.loops (keyOf (sub (codeOf Try.f53) [1, 1, 1, 0, 1, 0, 0])))) w') Q e w) e w
def J12 (pr : Prims) (out_4 : Sl) (j_7 : Int) (v_8 : Int) (t13 : Sl) (t14 : Int) (t15 : Int) (t19 : Sl) (t20 : Int) (t21 : Int) (w : World) (k : Env → World → Prop) (Q : Exit → Env → World → Prop) : Prop :=
  pr.seg (fun e w => wpC pr PP cfg (DD pr) (sub (codeOf Try.f53) [1, 1, 1, 0, 1, 0, 0, 1, 1, 0, 0, 1, 1, 0, 0, 1, 1, 0, 0, 1, 1]) (q12 pr k Q) e w) (j12 out_4 j_7 v_8 t13 t14 t15 t19 t20 t21) w
def B8 (pr : Prims) (out_4 : Sl) (t13 : Sl) (t14 : Int) (t15 : Int) (t19 : Sl) (t20 : Int) (t21 : Int) (w : World) (k : Env → World → Prop) (Q : Exit → Env → World → Prop) : Prop :=
  S8 pr Q k (emb8 out_4 t13 t14 t15 t19 t20 t21) w
def L8 (pr : Prims) (out_4 : Sl) (t13 : Sl) (t14 : Int) (t15 : Int) (t19 : Sl) (t20 : Int) (t21 : Int) (w : World) (Q : Exit → Env → World → Prop) : Prop :=
  pr.loop (S8 pr Q) (emb8 out_4 t13 t14 t15 t19 t20 t21) w
def B5 (pr : Prims) (out_4 : Sl) (t13 : Sl) (t14 : Int) (t15 : Int) (w : World) (k : Env → World → Prop) (Q : Exit → Env → World → Prop) : Prop :=
  S5 pr Q k (emb5 out_4 t13 t14 t15) w
def L5 (pr : Prims) (out_4 : Sl) (t13 : Sl) (t14 : Int) (t15 : Int) (w : World) (Q : Exit → Env → World → Prop) : Prop :=
  pr.loop (S5 pr Q) (emb5 out_4 t13 t14 t15) w
def E (pr : Prims) (t_0 : Sl) (w : World) (R : Ending → World → Prop) : Prop :=
  wpC pr PP cfg (DD pr) (codeOf Try.f53) (retQ Try.f53.results.toList R) (argE 0 [Sl.v t_0]) w
theorem J12_gen (pr : Prims) (out_4 : Sl) (j_7 : Int) (v_8 : Int) (t13 : Sl) (t14 : Int) (t15 : Int) (t19 : Sl) (t20 : Int) (t21 : Int) (w : World) (k : Env → World → Prop) (Q : Exit → Env → World → Prop) : wpC pr PP cfg (DD pr) (sub (codeOf Try.f53) [1, 1, 1, 0, 1, 0, 0, 1, 1, 0, 0, 1, 1, 0, 0, 1, 1, 0, 0, 1, 1]) (q12 pr k Q) (j12 out_4 j_7 v_8 t13 t14 t15 t19 t20 t21) w = (
  pr.idxK 1 out_4 j_7 fun (a20 : Addr) =>
  pr.load1 .sl a20 w fun (ξ21 : Sl) =>
  pr.sem1 .sl PP (Instr.buildSlice T_Sint 1 #[(0, vI v_8)]) w fun (ρ22 : Sl) ω23 =>
  pr.sem1 .sl PP (Builtin.append_ #[T_Sint, T_Sint] T_Sint #[Sl.v ξ21, Sl.v ρ22]) ω23 fun (ρ24 : Sl) ω25 =>
  pr.idxK 1 out_4 j_7 fun (a26 : Addr) =>
  pr.storeC a26 (Sl.v ρ24) ω25 fun ω27 =>
  k (emb8 out_4 t13 t14 t15 t19 t20 (w64 (t21 + 1))) ω27) := by kernel_rfl
theorem J12_s (out_4 : Sl) (j_7 : Int) (v_8 : Int) (t13 : Sl) (t14 : Int) (t15 : Int) (t19 : Sl) (t20 : Int) (t21 : Int) (w : World) (k : Env → World → Prop) (Q : Exit → Env → World → Prop) : J12 std out_4 j_7 v_8 t13 t14 t15 t19 t20 t21 w k Q = (
  idxK 1 out_4 j_7 fun (a20 : Addr) =>
  load1 .sl a20 w fun (ξ21 : Sl) =>
  sem1 .sl PP (Instr.buildSlice T_Sint 1 #[(0, vI v_8)]) w fun (ρ22 : Sl) ω23 =>
  sem1 .sl PP (Builtin.append_ #[T_Sint, T_Sint] T_Sint #[Sl.v ξ21, Sl.v ρ22]) ω23 fun (ρ24 : Sl) ω25 =>
  idxK 1 out_4 j_7 fun (a26 : Addr) =>
  storeC a26 (Sl.v ρ24) ω25 fun ω27 =>
  k (emb8 out_4 t13 t14 t15 t19 t20 (w64 (t21 + 1))) ω27) := J12_gen std out_4 j_7 v_8 t13 t14 t15 t19 t20 t21 w k Q
theorem B8_eq (pr : Prims) (out_4 : Sl) (t13 : Sl) (t14 : Int) (t15 : Int) (t19 : Sl) (t20 : Int) (t21 : Int) (w : World) (k : Env → World → Prop) (Q : Exit → Env → World → Prop) : B8 pr out_4 t13 t14 t15 t19 t20 t21 w k Q = (
  bif decide (t21 < t20) then (
  pr.idxK 1 t19 t21 fun (a13 : Addr) =>
  pr.load1 (.int .i64) a13 w fun (ξ14 : Int) =>
  bif t21 == (out_4.n : Int) then (
  pr.sem1 .sl PP (Instr.buildSlice T_SSint 1 #[(0, Sl.v Sl.nil)]) w fun (ρ16 : Sl) ω17 =>
  pr.sem1 .sl PP (Builtin.append_ #[T_SSint, T_SSint] T_SSint #[Sl.v out_4, Sl.v ρ16]) ω17 fun (ρ18 : Sl) ω19 =>
  J12 pr ρ18 t21 ξ14 t13 t14 t15 t19 t20 t21 ω19 k Q)
  else (
  J12 pr out_4 t21 ξ14 t13 t14 t15 t19 t20 t21 w k Q))
  else (
  Q (.exit 2) (x2 out_4 t13 t14 t15) w)) := by kernel_rfl
theorem B8_s (out_4 : Sl) (t13 : Sl) (t14 : Int) (t15 : Int) (t19 : Sl) (t20 : Int) (t21 : Int) (w : World) (k : Env → World → Prop) (Q : Exit → Env → World → Prop) : B8 std out_4 t13 t14 t15 t19 t20 t21 w k Q = (
  bif decide (t21 < t20) then (
  idxK 1 t19 t21 fun (a13 : Addr) =>
  load1 (.int .i64) a13 w fun (ξ14 : Int) =>
  bif t21 == (out_4.n : Int) then (
  sem1 .sl PP (Instr.buildSlice T_SSint 1 #[(0, Sl.v Sl.nil)]) w fun (ρ16 : Sl) ω17 =>
  sem1 .sl PP (Builtin.append_ #[T_SSint, T_SSint] T_SSint #[Sl.v out_4, Sl.v ρ16]) ω17 fun (ρ18 : Sl) ω19 =>
  J12 std ρ18 t21 ξ14 t13 t14 t15 t19 t20 t21 ω19 k Q)
  else (
  J12 std out_4 t21 ξ14 t13 t14 t15 t19 t20 t21 w k Q))
  else (
  Q (.exit 2) (x2 out_4 t13 t14 t15) w)) := B8_eq std out_4 t13 t14 t15 t19 t20 t21 w k Q
theorem L8_rule (out_4 : Sl) (t13 : Sl) (t14 : Int) (t15 : Int) (t19 : Sl) (t20 : Int) (t21 : Int) (w : World) (Q : Exit → Env → World → Prop) (I : Sl → Int → World → Prop) (μ : Sl → Int → World → Nat) (h0 : I out_4 t21 w)
    (h : ∀ (out_4 : Sl) (t21 : Int) (w' : World), I out_4 t21 w' → B8 std out_4 t13 t14 t15 t19 t20 t21 w' (fun e2 w2 => ∃ out_4_n t21_n, e2 = emb8 out_4_n t13 t14 t15 t19 t20 t21_n ∧ I out_4_n t21_n w2 ∧ μ out_4_n t21_n w2 < μ out_4 t21 w') Q) :
    L8 std out_4 t13 t14 t15 t19 t20 t21 w Q := by
  unfold L8
  refine LoopE.intro (σ := Sl × Int) (step := S8 std Q) (fun s => emb8 s.1 t13 t14 t15 t19 t20 s.2) (fun s w => I s.1 s.2 w) (fun s w => μ s.1 s.2 w) (out_4, t21) rfl h0 ?_
  intro s w' hI
  have h1 := h s.1 s.2 w' hI
  unfold B8 at h1
  simp only [Prod.exists]
  exact h1
theorem A8_2_eq (pr : Prims) (out_4 : Sl) (t13 : Sl) (t14 : Int) (t15 : Int) (w : World) (k : Env → World → Prop) (Q : Exit → Env → World → Prop) : (q10 pr k Q) (.exit 2) (x2 out_4 t13 t14 t15) w = (
  k (emb5 out_4 t13 t14 (w64 (t15 + 1))) w) := by kernel_rfl
theorem A8_2_s (out_4 : Sl) (t13 : Sl) (t14 : Int) (t15 : Int) (w : World) (k : Env → World → Prop) (Q : Exit → Env → World → Prop) : (q10 std k Q) (.exit 2) (x2 out_4 t13 t14 t15) w = (
  k (emb5 out_4 t13 t14 (w64 (t15 + 1))) w) := A8_2_eq std out_4 t13 t14 t15 w k Q
theorem B5_eq (pr : Prims) (out_4 : Sl) (t13 : Sl) (t14 : Int) (t15 : Int) (w : World) (k : Env → World → Prop) (Q : Exit → Env → World → Prop) : B5 pr out_4 t13 t14 t15 w k Q = (
  bif decide (t15 < t14) then (
  pr.idxK 1 t13 t15 fun (a8 : Addr) =>
  pr.load1 .sl a8 w fun (ξ9 : Sl) =>
  L8 pr out_4 t13 t14 t15 ξ9 (ξ9.n : Int) 0 w (q10 pr k Q))
  else (
  Q (.exit 0) (x0 out_4) w)) := by kernel_rfl
theorem B5_s (out_4 : Sl) (t13 : Sl) (t14 : Int) (t15 : Int) (w : World) (k : Env → World → Prop) (Q : Exit → Env → World → Prop) : B5 std out_4 t13 t14 t15 w k Q = (
  bif decide (t15 < t14) then (
  idxK 1 t13 t15 fun (a8 : Addr) =>
  load1 .sl a8 w fun (ξ9 : Sl) =>
  L8 std out_4 t13 t14 t15 ξ9 (ξ9.n : Int) 0 w (q10 std k Q))
  else (
  Q (.exit 0) (x0 out_4) w)) := B5_eq std out_4 t13 t14 t15 w k Q
theorem L5_rule (out_4 : Sl) (t13 : Sl) (t14 : Int) (t15 : Int) (w : World) (Q : Exit → Env → World → Prop) (I : Sl → Int → World → Prop) (μ : Sl → Int → World → Nat) (h0 : I out_4 t15 w)
    (h : ∀ (out_4 : Sl) (t15 : Int) (w' : World), I out_4 t15 w' → B5 std out_4 t13 t14 t15 w' (fun e2 w2 => ∃ out_4_n t15_n, e2 = emb5 out_4_n t13 t14 t15_n ∧ I out_4_n t15_n w2 ∧ μ out_4_n t15_n w2 < μ out_4 t15 w') Q) :
    L5 std out_4 t13 t14 t15 w Q := by
  unfold L5
  refine LoopE.intro (σ := Sl × Int) (step := S5 std Q) (fun s => emb5 s.1 t13 t14 s.2) (fun s w => I s.1 s.2 w) (fun s w => μ s.1 s.2 w) (out_4, t15) rfl h0 ?_
  intro s w' hI
  have h1 := h s.1 s.2 w' hI
  unfold B5 at h1
  simp only [Prod.exists]
  exact h1
theorem A5_0_eq (pr : Prims) (out_4 : Sl) (w : World) (R : Ending → World → Prop) : (q5 pr R) (.exit 0) (x0 out_4) w = (
  R (.returned (.tuple #[Sl.v out_4, .bool true])) w) := by kernel_rfl
theorem A5_0_s (out_4 : Sl) (w : World) (R : Ending → World → Prop) : (q5 std R) (.exit 0) (x0 out_4) w = (
  R (.returned (.tuple #[Sl.v out_4, .bool true])) w) := A5_0_eq std out_4 w R
theorem E_eq (pr : Prims) (t_0 : Sl) (w : World) (R : Ending → World → Prop) : E pr t_0 w R = (
  pr.call1 .bool PP F.impl_IsTableau #[Sl.v t_0] w fun (ρ0 : Bool) ω1 =>
  bif !ρ0 then (
  R (.returned (.tuple #[Sl.v Sl.nil, .bool false])) ω1)
  else (
  pr.sem1 .sl PP (Instr.buildSlice T_SSint 0 #[]) ω1 fun (ρ2 : Sl) ω3 =>
  L5 pr ρ2 t_0 (t_0.n : Int) 0 ω3 (q5 pr R))) := by kernel_rfl
theorem E_s (t_0 : Sl) (w : World) (R : Ending → World → Prop) : E std t_0 w R = (
  call1 .bool PP F.impl_IsTableau #[Sl.v t_0] w fun (ρ0 : Bool) ω1 =>
  bif !ρ0 then (
  R (.returned (.tuple #[Sl.v Sl.nil, .bool false])) ω1)
  else (
  sem1 .sl PP (Instr.buildSlice T_SSint 0 #[]) ω1 fun (ρ2 : Sl) ω3 =>
  L5 std ρ2 t_0 (t_0.n : Int) 0 ω3 (q5 std R))) := E_eq std t_0 w R
theorem drawsOk : drawsOk PP cfg okD (codeOf Try.f53) = true := by kernel_rfl
theorem calls (t_0 : Sl) {w : World} {R : Ending → World → Prop} (h : E std t_0 w R) : Calls PP F.impl_TurnTableau #[Sl.v t_0] w R :=
  calls_of noCount mixed drawOk Try.func53 rfl (c := cfg) (args := [Sl.v t_0]) rfl (Nat.le_of_ble_eq_true (by kernel_rfl)) drawsOk h
end impl_TurnTableau

namespace spec_TurnTableau
@[reducible] def cfg : Cfg := ⟨57, [(9, [0, 4, 5, 6, 7]), (5, [0, 4, 5])], [(3, [0, 4, 5, 6, 7]), (2, [0, 4, 5, 6]), (1, [0, 4, 5]), (0, [4])], [], [2, 3], [], [101, 107, 112, 15, 21, 124, 76, 137, 28, 115, 91, 81, 130], [138, 140, 82, 6, 86, 85, 132]⟩
def q6 (pr : Prims) (R : Ending → World → Prop) : Exit → Env → World → Prop := fun ex e w => normQ ex (fun e w => contE pr cfg (sub (codeOf Try.f54) [1, 1, 1, 1]) (fun e w => wpC pr PP cfg (DD pr) (sub (codeOf Try.f54) [1, 1, 1, 1]) (retQ Try.f54.results.toList R) e w) e w) (retQ Try.f54.results.toList R) e w
def q7 (pr : Prims) (R : Ending → World → Prop) : Exit → Env → World → Prop := fun ex e w => blockQ ex 0 (q6 pr R) e w
def q10 (pr : Prims) (k : Env → World → Prop) (Q : Exit → Env → World → Prop) : Exit → Env → World → Prop := fun ex e w => normQ ex (fun e w => contE pr cfg (sub (codeOf Try.f54) [1, 1, 1, 0, 1, 0, 0, 1, 1]) (fun e w => wpC pr PP cfg (DD pr) (sub (codeOf Try.f54) [1, 1, 1, 0, 1, 0, 0, 1, 1]) (fun ex e w => normQ ex (fun e' w' => k (Env.restr e' (lookN cfg.loops (keyOf (sub (codeOf Try.f54) [1, 1, 1, 0, 1, 0, 0])))) w') Q e w) e w) e w) (fun ex e w => normQ ex (fun e' w' => k (Env.restr e' (lookN cfg.loops (keyOf (sub (codeOf Try.f54) [1, 1, 1, 0, 1, 0, 0])))) w') Q e w) e w
def q11 (pr : Prims) (k : Env → World → Prop) (Q : Exit → Env → World → Prop) : Exit → Env → World → Prop := fun ex e w => blockQ ex 1 (q10 pr k Q) e w
def q14 (pr : Prims) (k : Env → World → Prop) (Q : Exit → Env → World → Prop) : Exit → Env → World → Prop := fun ex e w => normQ ex (fun e w => contE pr cfg (sub (codeOf Try.f54) [1, 1, 1, 0, 1, 0, 0, 1, 0, 0, 1, 1]) (fun e w => wpC pr PP cfg (DD pr) (sub (codeOf Try.f54) [1, 1, 1, 0, 1, 0, 0, 1, 0, 0, 1, 1]) (q11 pr k Q) e w) e w) (q11 pr k Q) e w
def q15 (pr : Prims) (k : Env → World → Prop) (Q : Exit → Env → World → Prop) : Exit → Env → World → Prop := fun ex e w => blockQ ex 2 (q14 pr k Q) e w
def emb5 (t_0 : Sl) (out_4 : Sl) (c_5 : Int) : Env := [(0, Sl.v t_0), (4, Sl.v out_4), (5, vI c_5)]
def emb9 (t_0 : Sl) (out_4 : Sl) (c_5 : Int) (row_6 : Sl) (r_7 : Int) : Env := [(0, Sl.v t_0), (4, Sl.v out_4), (5, vI c_5), (6, Sl.v row_6), (7, vI r_7)]
def x2 (t_0 : Sl) (out_4 : Sl) (c_5 : Int) (row_6 : Sl) : Env := [(0, Sl.v t_0), (4, Sl.v out_4), (5, vI c_5), (6, Sl.v row_6)]
def x0 (out_4 : Sl) : Env := [(4, Sl.v out_4)]
def S9 (pr : Prims) (Q : Exit → Env → World → Prop) : (Env → World → Prop) → Env → World → Prop := fun k e w => wpC pr PP cfg (DD pr) (sub (codeOf Try.f54) [1, 1, 1, 0, 1, 0, 0, 1, 0, 0, 1, 0, 1, 0, 0]) (fun ex e w => normQ ex (fun e' w' => k (Env.restr e' (lookN cfg.loops (keyOf (sub (codeOf Try.f54) [1, 1, 1, 0, 1, 0, 0, 1, 0, 0, 1, 0, 1, 0, 0])))) w') Q e w) e w
def S5 (pr : Prims) (Q : Exit → Env → World → Prop) : (Env → World → Prop) → Env → World → Prop := fun k e w => wpC pr PP cfg (DD pr) (sub (codeOf Try.f54) [1, 1, 1, 0, 1, 0, 0]) (fun ex e w => normQ ex (fun e' w' => k (Env.restr e' (lookN cfg.loops (keyOf (sub (codeOf Try.f54) [1, 1, 1, 0, 1, 0, 0])))) w') Q e w) e w
def B9 (pr : Prims) (t_0 : Sl) (out_4 : Sl) (c_5 : Int) (row_6 : Sl) (r_7 : Int) (w : World) (k : Env → World → Prop) (Q : Exit → Env → World → Prop) : Prop :=
  S9 pr Q k (emb9 t_0 out_4 c_5 row_6 r_7) w
def L9 (pr : Prims) (t_0 : Sl) (out_4 : Sl) (c_5 : Int) (row_6 : Sl) (r_7 : Int) (w : World) (Q : Exit → Env → World → Prop) : Prop :=
  pr.loop (S9 pr Q) (emb9 t_0 out_4 c_5 row_6 r_7) w
def B5 (pr : Prims) (t_0 : Sl) (out_4 : Sl) (c_5 : Int) (w : World) (k : Env → World → Prop) (Q : Exit → Env → World → Prop) : Prop :=
  S5 pr Q k (emb5 t_0 out_4 c_5) w
def L5 (pr : Prims) (t_0 : Sl) (out_4 : Sl) (c_5 : Int) (w : World) (Q : Exit → Env → World → Prop) : Prop :=
  pr.loop (S5 pr Q) (emb5 t_0 out_4 c_5) w
def E (pr : Prims) (t_0 : Sl) (w : World) (R : Ending → World → Prop) : Prop :=
  wpC pr PP cfg (DD pr) (codeOf Try.f54) (retQ Try.f54.results.toList R) (argE 0 [Sl.v t_0]) w
theorem B9_eq (pr : Prims) (t_0 : Sl) (out_4 : Sl) (c_5 : Int) (row_6 : Sl) (r_7 : Int) (w : World) (k : Env → World → Prop) (Q : Exit → Env → World → Prop) : B9 pr t_0 out_4 c_5 row_6 r_7 w k Q = (
  bif decide (r_7 < (t_0.n : Int)) then (
  pr.idxK 1 t_0 r_7 fun (a16 : Addr) =>
  pr.load1 .sl a16 w fun (ξ17 : Sl) =>
  bif decide (c_5 < (ξ17.n : Int)) then (
  pr.idxK 1 t_0 r_7 fun (a18 : Addr) =>
  pr.load1 .sl a18 w fun (ξ19 : Sl) =>
  pr.idxK 1 ξ19 c_5 fun (a20 : Addr) =>
  pr.load1 (.int .i64) a20 w fun (ξ21 : Int) =>
  pr.sem1 .sl PP (Instr.buildSlice T_Sint 1 #[(0, vI ξ21)]) w fun (ρ22 : Sl) ω23 =>
  pr.sem1 .sl PP (Builtin.append_ #[T_Sint, T_Sint] T_Sint #[Sl.v row_6, Sl.v ρ22]) ω23 fun (ρ24 : Sl) ω25 =>
  k (emb9 t_0 out_4 c_5 ρ24 (w64 (r_7 + 1))) ω25)
  else (
  Q (.exit 2) (x2 t_0 out_4 c_5 row_6) w))
  else (
  Q (.exit 2) (x2 t_0 out_4 c_5 row_6) w)) := by kernel_rfl
theorem B9_s (t_0 : Sl) (out_4 : Sl) (c_5 : Int) (row_6 : Sl) (r_7 : Int) (w : World) (k : Env → World → Prop) (Q : Exit → Env → World → Prop) : B9 std t_0 out_4 c_5 row_6 r_7 w k Q = (
  bif decide (r_7 < (t_0.n : Int)) then (
  idxK 1 t_0 r_7 fun (a16 : Addr) =>
  load1 .sl a16 w fun (ξ17 : Sl) =>
  bif decide (c_5 < (ξ17.n : Int)) then (
  idxK 1 t_0 r_7 fun (a18 : Addr) =>
  load1 .sl a18 w fun (ξ19 : Sl) =>
  idxK 1 ξ19 c_5 fun (a20 : Addr) =>
  load1 (.int .i64) a20 w fun (ξ21 : Int) =>
  sem1 .sl PP (Instr.buildSlice T_Sint 1 #[(0, vI ξ21)]) w fun (ρ22 : Sl) ω23 =>
  sem1 .sl PP (Builtin.append_ #[T_Sint, T_Sint] T_Sint #[Sl.v row_6, Sl.v ρ22]) ω23 fun (ρ24 : Sl) ω25 =>
  k (emb9 t_0 out_4 c_5 ρ24 (w64 (r_7 + 1))) ω25)
  else (
  Q (.exit 2) (x2 t_0 out_4 c_5 row_6) w))
  else (
  Q (.exit 2) (x2 t_0 out_4 c_5 row_6) w)) := B9_eq std t_0 out_4 c_5 row_6 r_7 w k Q
theorem L9_rule (t_0 : Sl) (out_4 : Sl) (c_5 : Int) (row_6 : Sl) (r_7 : Int) (w : World) (Q : Exit → Env → World → Prop) (I : Sl → Int → World → Prop) (μ : Sl → Int → World → Nat) (h0 : I row_6 r_7 w)
    (h : ∀ (row_6 : Sl) (r_7 : Int) (w' : World), I row_6 r_7 w' → B9 std t_0 out_4 c_5 row_6 r_7 w' (fun e2 w2 => ∃ row_6_n r_7_n, e2 = emb9 t_0 out_4 c_5 row_6_n r_7_n ∧ I row_6_n r_7_n w2 ∧ μ row_6_n r_7_n w2 < μ row_6 r_7 w') Q) :
    L9 std t_0 out_4 c_5 row_6 r_7 w Q := by
  unfold L9
  refine LoopE.intro (σ := Sl × Int) (step := S9 std Q) (fun s => emb9 t_0 out_4 c_5 s.1 s.2) (fun s w => I s.1 s.2 w) (fun s w => μ s.1 s.2 w) (row_6, r_7) rfl h0 ?_
  intro s w' hI
  have h1 := h s.1 s.2 w' hI
  unfold B9 at h1
  simp only [Prod.exists]
  exact h1
theorem A9_2_eq (pr : Prims) (t_0 : Sl) (out_4 : Sl) (c_5 : Int) (row_6 : Sl) (w : World) (k : Env → World → Prop) (Q : Exit → Env → World → Prop) : (q15 pr k Q) (.exit 2) (x2 t_0 out_4 c_5 row_6) w = (
  pr.sem1 .sl PP (Instr.buildSlice T_SSint 1 #[(0, Sl.v row_6)]) w fun (ρ26 : Sl) ω27 =>
  pr.sem1 .sl PP (Builtin.append_ #[T_SSint, T_SSint] T_SSint #[Sl.v out_4, Sl.v ρ26]) ω27 fun (ρ28 : Sl) ω29 =>
  k (emb5 t_0 ρ28 (w64 (c_5 + 1))) ω29) := by kernel_rfl
theorem A9_2_s (t_0 : Sl) (out_4 : Sl) (c_5 : Int) (row_6 : Sl) (w : World) (k : Env → World → Prop) (Q : Exit → Env → World → Prop) : (q15 std k Q) (.exit 2) (x2 t_0 out_4 c_5 row_6) w = (
  sem1 .sl PP (Instr.buildSlice T_SSint 1 #[(0, Sl.v row_6)]) w fun (ρ26 : Sl) ω27 =>
  sem1 .sl PP (Builtin.append_ #[T_SSint, T_SSint] T_SSint #[Sl.v out_4, Sl.v ρ26]) ω27 fun (ρ28 : Sl) ω29 =>
  k (emb5 t_0 ρ28 (w64 (c_5 + 1))) ω29) := A9_2_eq std t_0 out_4 c_5 row_6 w k Q
theorem B5_eq (pr : Prims) (t_0 : Sl) (out_4 : Sl) (c_5 : Int) (w : World) (k : Env → World → Prop) (Q : Exit → Env → World → Prop) : B5 pr t_0 out_4 c_5 w k Q = (
  bif decide ((t_0.n : Int) > 0) then (
  pr.idxK 1 t_0 0 fun (a8 : Addr) =>
  pr.load1 .sl a8 w fun (ξ9 : Sl) =>
  bif decide (c_5 < (ξ9.n : Int)) then (
  pr.sem1 .sl PP (Instr.buildSlice T_Sint 0 #[]) w fun (ρ12 : Sl) ω13 =>
  L9 pr t_0 out_4 c_5 ρ12 0 ω13 (q15 pr k Q))
  else (
  Q (.exit 0) (x0 out_4) w))
  else (
  Q (.exit 0) (x0 out_4) w)) := by kernel_rfl
theorem B5_s (t_0 : Sl) (out_4 : Sl) (c_5 : Int) (w : World) (k : Env → World → Prop) (Q : Exit → Env → World → Prop) : B5 std t_0 out_4 c_5 w k Q = (
  bif decide ((t_0.n : Int) > 0) then (
  idxK 1 t_0 0 fun (a8 : Addr) =>
  load1 .sl a8 w fun (ξ9 : Sl) =>
  bif decide (c_5 < (ξ9.n : Int)) then (
  sem1 .sl PP (Instr.buildSlice T_Sint 0 #[]) w fun (ρ12 : Sl) ω13 =>
  L9 std t_0 out_4 c_5 ρ12 0 ω13 (q15 std k Q))
  else (
  Q (.exit 0) (x0 out_4) w))
  else (
  Q (.exit 0) (x0 out_4) w)) := B5_eq std t_0 out_4 c_5 w k Q
theorem L5_rule (t_0 : Sl) (out_4 : Sl) (c_5 : Int) (w : World) (Q : Exit → Env → World → Prop) (I : Sl → Int → World → Prop) (μ : Sl → Int → World → Nat) (h0 : I out_4 c_5 w)
    (h : ∀ (out_4 : Sl) (c_5 : Int) (w' : World), I out_4 c_5 w' → B5 std t_0 out_4 c_5 w' (fun e2 w2 => ∃ out_4_n c_5_n, e2 = emb5 t_0 out_4_n c_5_n ∧ I out_4_n c_5_n w2 ∧ μ out_4_n c_5_n w2 < μ out_4 c_5 w') Q) :
    L5 std t_0 out_4 c_5 w Q := by
  unfold L5
  refine LoopE.intro (σ := Sl × Int) (step := S5 std Q) (fun s => emb5 t_0 s.1 s.2) (fun s w => I s.1 s.2 w) (fun s w => μ s.1 s.2 w) (out_4, c_5) rfl h0 ?_
  intro s w' hI
  have h1 := h s.1 s.2 w' hI
  unfold B5 at h1
  simp only [Prod.exists]
  exact h1
theorem A5_0_eq (pr : Prims) (out_4 : Sl) (w : World) (R : Ending → World → Prop) : (q7 pr R) (.exit 0) (x0 out_4) w = (
  R (.returned (.tuple #[Sl.v out_4, .bool true])) w) := by kernel_rfl
theorem A5_0_s (out_4 : Sl) (w : World) (R : Ending → World → Prop) : (q7 std R) (.exit 0) (x0 out_4) w = (
  R (.returned (.tuple #[Sl.v out_4, .bool true])) w) := A5_0_eq std out_4 w R
theorem E_eq (pr : Prims) (t_0 : Sl) (w : World) (R : Ending → World → Prop) : E pr t_0 w R = (
  pr.call1 .bool PP F.spec_IsTableau #[Sl.v t_0] w fun (ρ0 : Bool) ω1 =>
  bif !ρ0 then (
  pr.sem1 .sl PP (Instr.buildSlice T_SSint 0 #[]) ω1 fun (ρ2 : Sl) ω3 =>
  R (.returned (.tuple #[Sl.v ρ2, .bool false])) ω3)
  else (
  pr.sem1 .sl PP (Instr.buildSlice T_SSint 0 #[]) ω1 fun (ρ4 : Sl) ω5 =>
  L5 pr t_0 ρ4 0 ω5 (q7 pr R))) := by kernel_rfl
theorem E_s (t_0 : Sl) (w : World) (R : Ending → World → Prop) : E std t_0 w R = (
  call1 .bool PP F.spec_IsTableau #[Sl.v t_0] w fun (ρ0 : Bool) ω1 =>
  bif !ρ0 then (
  sem1 .sl PP (Instr.buildSlice T_SSint 0 #[]) ω1 fun (ρ2 : Sl) ω3 =>
  R (.returned (.tuple #[Sl.v ρ2, .bool false])) ω3)
  else (
  sem1 .sl PP (Instr.buildSlice T_SSint 0 #[]) ω1 fun (ρ4 : Sl) ω5 =>
  L5 std t_0 ρ4 0 ω5 (q7 std R))) := E_eq std t_0 w R
theorem drawsOk : drawsOk PP cfg okD (codeOf Try.f54) = true := by kernel_rfl
theorem calls (t_0 : Sl) {w : World} {R : Ending → World → Prop} (h : E std t_0 w R) : Calls PP F.spec_TurnTableau #[Sl.v t_0] w R :=
  calls_of noCount mixed drawOk Try.func54 rfl (c := cfg) (args := [Sl.v t_0]) rfl (Nat.le_of_ble_eq_true (by kernel_rfl)) drawsOk h
end spec_TurnTableau

namespace slices_Concat___int_int_
@[reducible] def cfg : Cfg := ⟨36, [(3, [0, 3, 9, 10, 11]), (11, [6, 25, 26, 27])], [(1, [0, 3, 9, 10, 11]), (0, [0, 3]), (3, [6, 25, 26, 27]), (2, [6])], [], [2], [], [101, 107, 112, 15, 21, 124, 76, 137, 28, 115, 91, 81, 130], [138, 140, 82, 6, 86, 85, 132]⟩
def q0 (pr : Prims) (R : Ending → World → Prop) : Exit → Env → World → Prop := fun ex e w => normQ ex (fun e w => contE pr cfg (sub (codeOf Try.f118) [1, 1, 1]) (fun e w => wpC pr PP cfg (DD pr) (sub (codeOf Try.f118) [1, 1, 1]) (retQ Try.f118.results.toList R) e w) e w) (retQ Try.f118.results.toList R) e w
def q1 (pr : Prims) (R : Ending → World → Prop) : Exit → Env → World → Prop := fun ex e w => blockQ ex 0 (q0 pr R) e w
def q6 (pr : Prims) (R : Ending → World → Prop) : Exit → Env → World → Prop := fun ex e w => normQ ex (fun e w => contE pr cfg (sub (codeOf Try.f118) [1, 1, 1, 1, 1]) (fun e w => wpC pr PP cfg (DD pr) (sub (codeOf Try.f118) [1, 1, 1, 1, 1]) (retQ Try.f118.results.toList R) e w) e w) (retQ Try.f118.results.toList R) e w
def q7 (pr : Prims) (R : Ending → World → Prop) : Exit → Env → World → Prop := fun ex e w => blockQ ex 2 (q6 pr R) e w
def emb3 (slices_0 : Sl) (size_3 : Int) (t9 : Sl) (t10 : Int) (t11 : Int) : Env := [(0, Sl.v slices_0), (3, vI size_3), (9, Sl.v t9), (10, vI t10), (11, vI t11)]
def x0 (slices_0 : Sl) (size_3 : Int) : Env := [(0, Sl.v slices_0), (3, vI size_3)]
def emb11 (newslice_6 : Sl) (t25 : Sl) (t26 : Int) (t27 : Int) : Env := [(6, Sl.v newslice_6), (25, Sl.v t25), (26, vI t26), (27, vI t27)]
def x2 (newslice_6 : Sl) : Env := [(6, Sl.v newslice_6)]
def S3 (pr : Prims) (Q : Exit → Env → World → Prop) : (Env → World → Prop) → Env → World → Prop := fun k e w => wpC pr PP cfg (DD pr) (sub (codeOf Try.f118) [1, 1, 0, 1, 0, 0]) (fun ex e w => normQ ex (fun e' w' => k (Env.restr e' (lookN cfg.loops (keyOf (sub (codeOf Try.f118) [1, 1, 0, 1, 0, 0])))) w') Q e w) e w
def S11 (pr : Prims) (Q : Exit → Env → World → Prop) : (Env → World → Prop) → Env → World → Prop := fun k e w => wpC pr PP cfg (DD pr) (sub (codeOf Try.f118) [1, 1, 1, 1, 0, 1, 0, 0]) (fun ex e w => normQ ex (fun e' w' => k (Env.restr e' (lookN cfg.loops (keyOf (sub (codeOf Try.f118) [1, 1, 1, 1, 0, 1, 0, 0])))) w') Q e w) e w
def B3 (pr : Prims) (slices_0 : Sl) (size_3 : Int) (t9 : Sl) (t10 : Int) (t11 : Int) (w : World) (k : Env → World → Prop) (Q : Exit → Env → World → Prop) : Prop :=
  S3 pr Q k (emb3 slices_0 size_3 t9 t10 t11) w
def L3 (pr : Prims) (slices_0 : Sl) (size_3 : Int) (t9 : Sl) (t10 : Int) (t11 : Int) (w : World) (Q : Exit → Env → World → Prop) : Prop :=
  pr.loop (S3 pr Q) (emb3 slices_0 size_3 t9 t10 t11) w
def B11 (pr : Prims) (newslice_6 : Sl) (t25 : Sl) (t26 : Int) (t27 : Int) (w : World) (k : Env → World → Prop) (Q : Exit → Env → World → Prop) : Prop :=
  S11 pr Q k (emb11 newslice_6 t25 t26 t27) w
def L11 (pr : Prims) (newslice_6 : Sl) (t25 : Sl) (t26 : Int) (t27 : Int) (w : World) (Q : Exit → Env → World → Prop) : Prop :=
  pr.loop (S11 pr Q) (emb11 newslice_6 t25 t26 t27) w
def E (pr : Prims) (slices_0 : Sl) (w : World) (R : Ending → World → Prop) : Prop :=
  wpC pr PP cfg (DD pr) (codeOf Try.f118) (retQ Try.f118.results.toList R) (argE 0 [Sl.v slices_0]) w
theorem B3_eq (pr : Prims) (slices_0 : Sl) (size_3 : Int) (t9 : Sl) (t10 : Int) (t11 : Int) (w : World) (k : Env → World → Prop) (Q : Exit → Env → World → Prop) : B3 pr slices_0 size_3 t9 t10 t11 w k Q = (
  bif decide (t11 < t10) then (
  pr.idxK 1 t9 t11 fun (a2 : Addr) =>
  pr.load1 .sl a2 w fun (ξ3 : Sl) =>
  bif decide ((w64 (size_3 + (ξ3.n : Int))) < 0) then (
  False)
  else (
  k (emb3 slices_0 (w64 (size_3 + (ξ3.n : Int))) t9 t10 (w64 (t11 + 1))) w))
  else (
  Q (.exit 0) (x0 slices_0 size_3) w)) := by kernel_rfl
theorem B3_s (slices_0 : Sl) (size_3 : Int) (t9 : Sl) (t10 : Int) (t11 : Int) (w : World) (k : Env → World → Prop) (Q : Exit → Env → World → Prop) : B3 std slices_0 size_3 t9 t10 t11 w k Q = (
  bif decide (t11 < t10) then (
  idxK 1 t9 t11 fun (a2 : Addr) =>
  load1 .sl a2 w fun (ξ3 : Sl) =>
  bif decide ((w64 (size_3 + (ξ3.n : Int))) < 0) then (
  False)
  else (
  k (emb3 slices_0 (w64 (size_3 + (ξ3.n : Int))) t9 t10 (w64 (t11 + 1))) w))
  else (
  Q (.exit 0) (x0 slices_0 size_3) w)) := B3_eq std slices_0 size_3 t9 t10 t11 w k Q
theorem L3_rule (slices_0 : Sl) (size_3 : Int) (t9 : Sl) (t10 : Int) (t11 : Int) (w : World) (Q : Exit → Env → World → Prop) (I : Int → Int → World → Prop) (μ : Int → Int → World → Nat) (h0 : I size_3 t11 w)
    (h : ∀ (size_3 : Int) (t11 : Int) (w' : World), I size_3 t11 w' → B3 std slices_0 size_3 t9 t10 t11 w' (fun e2 w2 => ∃ size_3_n t11_n, e2 = emb3 slices_0 size_3_n t9 t10 t11_n ∧ I size_3_n t11_n w2 ∧ μ size_3_n t11_n w2 < μ size_3 t11 w') Q) :
    L3 std slices_0 size_3 t9 t10 t11 w Q := by
  unfold L3
  refine LoopE.intro (σ := Int × Int) (step := S3 std Q) (fun s => emb3 slices_0 s.1 t9 t10 s.2) (fun s w => I s.1 s.2 w) (fun s w => μ s.1 s.2 w) (size_3, t11) rfl h0 ?_
  intro s w' hI
  have h1 := h s.1 s.2 w' hI
  unfold B3 at h1
  simp only [Prod.exists]
  exact h1
theorem B11_eq (pr : Prims) (newslice_6 : Sl) (t25 : Sl) (t26 : Int) (t27 : Int) (w : World) (k : Env → World → Prop) (Q : Exit → Env → World → Prop) : B11 pr newslice_6 t25 t26 t27 w k Q = (
  bif decide (t27 < t26) then (
  pr.idxK 1 t25 t27 fun (a8 : Addr) =>
  pr.load1 .sl a8 w fun (ξ9 : Sl) =>
  pr.sem1 .sl PP (Builtin.append_ #[T_Sint, T_Sint] T_Sint #[Sl.v newslice_6, Sl.v ξ9]) w fun (ρ10 : Sl) ω11 =>
  k (emb11 ρ10 t25 t26 (w64 (t27 + 1))) ω11)
  else (
  Q (.exit 2) (x2 newslice_6) w)) := by kernel_rfl
theorem B11_s (newslice_6 : Sl) (t25 : Sl) (t26 : Int) (t27 : Int) (w : World) (k : Env → World → Prop) (Q : Exit → Env → World → Prop) : B11 std newslice_6 t25 t26 t27 w k Q = (
  bif decide (t27 < t26) then (
  idxK 1 t25 t27 fun (a8 : Addr) =>
  load1 .sl a8 w fun (ξ9 : Sl) =>
  sem1 .sl PP (Builtin.append_ #[T_Sint, T_Sint] T_Sint #[Sl.v newslice_6, Sl.v ξ9]) w fun (ρ10 : Sl) ω11 =>
  k (emb11 ρ10 t25 t26 (w64 (t27 + 1))) ω11)
  else (
  Q (.exit 2) (x2 newslice_6) w)) := B11_eq std newslice_6 t25 t26 t27 w k Q
theorem L11_rule (newslice_6 : Sl) (t25 : Sl) (t26 : Int) (t27 : Int) (w : World) (Q : Exit → Env → World → Prop) (I : Sl → Int → World → Prop) (μ : Sl → Int → World → Nat) (h0 : I newslice_6 t27 w)
    (h : ∀ (newslice_6 : Sl) (t27 : Int) (w' : World), I newslice_6 t27 w' → B11 std newslice_6 t25 t26 t27 w' (fun e2 w2 => ∃ newslice_6_n t27_n, e2 = emb11 newslice_6_n t25 t26 t27_n ∧ I newslice_6_n t27_n w2 ∧ μ newslice_6_n t27_n w2 < μ newslice_6 t27 w') Q) :
    L11 std newslice_6 t25 t26 t27 w Q := by
  unfold L11
  refine LoopE.intro (σ := Sl × Int) (step := S11 std Q) (fun s => emb11 s.1 t25 t26 s.2) (fun s w => I s.1 s.2 w) (fun s w => μ s.1 s.2 w) (newslice_6, t27) rfl h0 ?_
  intro s w' hI
  have h1 := h s.1 s.2 w' hI
  unfold B11 at h1
  simp only [Prod.exists]
  exact h1
theorem A11_2_eq (pr : Prims) (newslice_6 : Sl) (w : World) (R : Ending → World → Prop) : (q7 pr R) (.exit 2) (x2 newslice_6) w = (
  R (.returned (Sl.v newslice_6)) w) := by kernel_rfl
theorem A11_2_s (newslice_6 : Sl) (w : World) (R : Ending → World → Prop) : (q7 std R) (.exit 2) (x2 newslice_6) w = (
  R (.returned (Sl.v newslice_6)) w) := A11_2_eq std newslice_6 w R
theorem A3_0_eq (pr : Prims) (slices_0 : Sl) (size_3 : Int) (w : World) (R : Ending → World → Prop) : (q1 pr R) (.exit 0) (x0 slices_0 size_3) w = (
  pr.call1 .sl PP F.slices_Grow___int_int_ #[Sl.v Sl.nil, vI size_3] w fun (ρ4 : Sl) ω5 =>
  L11 pr ρ4 slices_0 (slices_0.n : Int) 0 ω5 (q7 pr R)) := by kernel_rfl
theorem A3_0_s (slices_0 : Sl) (size_3 : Int) (w : World) (R : Ending → World → Prop) : (q1 std R) (.exit 0) (x0 slices_0 size_3) w = (
  call1 .sl PP F.slices_Grow___int_int_ #[Sl.v Sl.nil, vI size_3] w fun (ρ4 : Sl) ω5 =>
  L11 std ρ4 slices_0 (slices_0.n : Int) 0 ω5 (q7 std R)) := A3_0_eq std slices_0 size_3 w R
theorem E_eq (pr : Prims) (slices_0 : Sl) (w : World) (R : Ending → World → Prop) : E pr slices_0 w R = (
  L3 pr slices_0 0 slices_0 (slices_0.n : Int) 0 w (q1 pr R)) := by kernel_rfl
theorem E_s (slices_0 : Sl) (w : World) (R : Ending → World → Prop) : E std slices_0 w R = (
  L3 std slices_0 0 slices_0 (slices_0.n : Int) 0 w (q1 std R)) := E_eq std slices_0 w R
theorem drawsOk : drawsOk PP cfg okD (codeOf Try.f118) = true := by kernel_rfl
theorem calls (slices_0 : Sl) {w : World} {R : Ending → World → Prop} (h : E std slices_0 w R) : Calls PP F.slices_Concat___int_int_ #[Sl.v slices_0] w R :=
  calls_of noCount mixed drawOk Try.func118 rfl (c := cfg) (args := [Sl.v slices_0]) rfl (Nat.le_of_ble_eq_true (by kernel_rfl)) drawsOk h
end slices_Concat___int_int_

namespace slices_Grow___int_int_
@[reducible] def cfg : Cfg := ⟨27, [], [], [(3, [0, 1]), (6, [0])], [4], [], [101, 107, 112, 15, 21, 124, 76, 137, 28, 115, 91, 81, 130], [138, 140, 82, 6, 86, 85, 132]⟩
def q0 (pr : Prims) (R : Ending → World → Prop) : Exit → Env → World → Prop := fun ex e w => normQ ex (fun e w => contE pr cfg (sub (codeOf Try.f135) [1, 1]) (fun e w => wpC pr PP cfg (DD pr) (sub (codeOf Try.f135) [1, 1]) (retQ Try.f135.results.toList R) e w) e w) (retQ Try.f135.results.toList R) e w
def q1 (pr : Prims) (R : Ending → World → Prop) : Exit → Env → World → Prop := fun ex e w => normQ ex (fun e w => contE pr cfg (sub (codeOf Try.f135) [1, 1, 1]) (fun e w => wpC pr PP cfg (DD pr) (sub (codeOf Try.f135) [1, 1, 1]) (retQ Try.f135.results.toList R) e w) e w) (retQ Try.f135.results.toList R) e w
def j3 (s_0 : Sl) (n_1 : Int) : Env := [(0, Sl.v s_0), (1, vI n_1)]
def j6 (s_0 : Sl) : Env := [(0, Sl.v s_0)]
def J6 (pr : Prims) (s_0 : Sl) (w : World) (R : Ending → World → Prop) : Prop :=
  pr.seg (fun e w => wpC pr PP cfg (DD pr) (sub (codeOf Try.f135) [1, 1, 1]) (retQ Try.f135.results.toList R) e w) (j6 s_0) w
def J3 (pr : Prims) (s_0 : Sl) (n_1 : Int) (w : World) (R : Ending → World → Prop) : Prop :=
  pr.seg (fun e w => wpC pr PP cfg (DD pr) (sub (codeOf Try.f135) [1, 1]) (retQ Try.f135.results.toList R) e w) (j3 s_0 n_1) w
def E (pr : Prims) (s_0 : Sl) (n_1 : Int) (w : World) (R : Ending → World → Prop) : Prop :=
  wpC pr PP cfg (DD pr) (codeOf Try.f135) (retQ Try.f135.results.toList R) (argE 0 [Sl.v s_0, vI n_1]) w
theorem J6_gen (pr : Prims) (s_0 : Sl) (w : World) (R : Ending → World → Prop) : wpC pr PP cfg (DD pr) (sub (codeOf Try.f135) [1, 1, 1]) (retQ Try.f135.results.toList R) (j6 s_0) w = (
  R (.returned (Sl.v s_0)) w) := by kernel_rfl
theorem J6_s (s_0 : Sl) (w : World) (R : Ending → World → Prop) : J6 std s_0 w R = (
  R (.returned (Sl.v s_0)) w) := J6_gen std s_0 w R
theorem J3_gen (pr : Prims) (s_0 : Sl) (n_1 : Int) (w : World) (R : Ending → World → Prop) : wpC pr PP cfg (DD pr) (sub (codeOf Try.f135) [1, 1]) (retQ Try.f135.results.toList R) (j3 s_0 n_1) w = (
  bif decide ((w64 (n_1 - (w64 ((s_0.c : Int) - (s_0.n : Int))))) > 0) then (
  pr.cutK 1 s_0 none (some (s_0.c : Int)) fun (s2 : Sl) =>
  pr.sem1 .sl PP (Builtin.append_ #[T_Sint, T_int] T_Sint #[Sl.v s2, vI (w64 (n_1 - (w64 ((s_0.c : Int) - (s_0.n : Int)))))]) w fun (ρ3 : Sl) ω4 =>
  pr.cutK 1 ρ3 none (some (s_0.n : Int)) fun (s5 : Sl) =>
  J6 pr s5 ω4 R)
  else (
  J6 pr s_0 w R)) := by kernel_rfl
theorem J3_s (s_0 : Sl) (n_1 : Int) (w : World) (R : Ending → World → Prop) : J3 std s_0 n_1 w R = (
  bif decide ((w64 (n_1 - (w64 ((s_0.c : Int) - (s_0.n : Int))))) > 0) then (
  cutK 1 s_0 none (some (s_0.c : Int)) fun (s2 : Sl) =>
  sem1 .sl PP (Builtin.append_ #[T_Sint, T_int] T_Sint #[Sl.v s2, vI (w64 (n_1 - (w64 ((s_0.c : Int) - (s_0.n : Int)))))]) w fun (ρ3 : Sl) ω4 =>
  cutK 1 ρ3 none (some (s_0.n : Int)) fun (s5 : Sl) =>
  J6 std s5 ω4 R)
  else (
  J6 std s_0 w R)) := J3_gen std s_0 n_1 w R
theorem E_eq (pr : Prims) (s_0 : Sl) (n_1 : Int) (w : World) (R : Ending → World → Prop) : E pr s_0 n_1 w R = (
  bif decide (n_1 < 0) then (
  False)
  else (
  J3 pr s_0 n_1 w R)) := by kernel_rfl
theorem E_s (s_0 : Sl) (n_1 : Int) (w : World) (R : Ending → World → Prop) : E std s_0 n_1 w R = (
  bif decide (n_1 < 0) then (
  False)
  else (
  J3 std s_0 n_1 w R)) := E_eq std s_0 n_1 w R
theorem drawsOk : drawsOk PP cfg okD (codeOf Try.f135) = true := by kernel_rfl
theorem calls (s_0 : Sl) (n_1 : Int) {w : World} {R : Ending → World → Prop} (h : E std s_0 n_1 w R) : Calls PP F.slices_Grow___int_int_ #[Sl.v s_0, vI n_1] w R :=
  calls_of noCount mixed drawOk Try.func135 rfl (c := cfg) (args := [Sl.v s_0, vI n_1]) rfl (Nat.le_of_ble_eq_true (by kernel_rfl)) drawsOk h
end slices_Grow___int_int_

end Go.Proofs.Ytdchjhhpbdekeaa

/- What each function does, step by step, written by a program (Gen.lean); each equation is checked by the kernel. -/
namespace Go.Proofs.Ytdchjhhpbdekeaa
open Go
set_option linter.unusedVariables false
set_option maxRecDepth 100000
end Go.Proofs.Ytdchjhhpbdekeaa

/- What each function does, step by step, written by a program (Gen.lean); each equation is checked by the kernel. -/
namespace Go.Proofs.Ytdchjhhpbdekeaa
open Go
set_option linter.unusedVariables false
set_option maxRecDepth 100000
end Go.Proofs.Ytdchjhhpbdekeaa

/- The laws' helpers that mark a row and look whether the marks stand. -/
namespace Go.Proofs.Ytdchjhhpbdekeaa
open Go Go.RowKit
set_option maxRecDepth 100000

/-- k, k+1, .. -/
def marks (k : Int) (n : Nat) : List Int := (List.range n).map fun (i : Nat) => k + (i : Int)
theorem marks_length (k : Int) (n : Nat) : (marks k n).length = n := by simp [marks]
theorem marks_getD {k : Int} {n i : Nat} (h : i < n) : (marks k n).getD i 0 = k + i := by simp [marks, List.getD_eq_getElem?_getD, h]
theorem marks_step (L : List Int) (k : Int) {i : Nat} (hi : i < L.length) : (marks k i ++ L.drop i).set i (k + i) = marks k (i + 1) ++ L.drop (i + 1) := by
  have h1 : L.drop i = L[i] :: L.drop (i + 1) := by rw [List.drop_eq_getElem_cons hi]
  have h2 : (marks k i).length = i := marks_length k i
  have h3 : marks k (i + 1) = marks k i ++ [k + (i : Int)] := by simp [marks, List.range_succ]
  rw [h1, List.set_append_right _ _ (by omega), h2, Nat.sub_self, List.set_cons_zero, h3, List.append_assoc]
  rfl

end Go.Proofs.Ytdchjhhpbdekeaa

/- The laws' helpers over rows of rows: comparison, marks. -/
namespace Go.Proofs.Ytdchjhhpbdekeaa
open Go Go.RowKit
set_option maxRecDepth 100000

def marksSS (k : Int) : List (List Int) → List (List Int)
  | [] => []
  | L :: r => marks k L.length :: marksSS (k + L.length) r
theorem marksSS_length : ∀ (LL : List (List Int)) (k : Int), (marksSS k LL).length = LL.length
  | [], _ => rfl
  | L :: r, k => by simp [marksSS, marksSS_length r]
theorem marksSS_append : ∀ (A B : List (List Int)) (k : Int), marksSS k (A ++ B) = marksSS k A ++ marksSS (k + tot A) B
  | [], B, k => by simp [marksSS, tot_nil]
  | L :: r, B, k => by
    simp only [List.cons_append, marksSS, marksSS_append r B, tot_cons, List.cons.injEq, true_and]
    congr 2; omega
theorem marksSS_step {LL : List (List Int)} (k : Int) {i : Nat} (h : i < LL.length) :
    (marksSS k (LL.take i) ++ LL.drop i).set i (marks (k + tot (LL.take i)) (LL.getD i []).length) = marksSS k (LL.take (i + 1)) ++ LL.drop (i + 1) := by
  have h1 : LL.drop i = LL[i] :: LL.drop (i + 1) := by rw [List.drop_eq_getElem_cons h]
  have h2 : (marksSS k (LL.take i)).length = i := by rw [marksSS_length]; simp; omega
  rw [h1, List.set_append_right _ _ (by omega), h2, Nat.sub_self, List.set_cons_zero, List.take_succ_eq_append_getElem h, marksSS_append, List.append_assoc, getD_SS h]
  rfl
theorem marksSS_at {LL : List (List Int)} (k : Int) {i : Nat} (h : i < LL.length) : (marksSS k (LL.take i) ++ LL.drop i).getD i [] = LL.getD i [] := by
  have h2 : (marksSS k (LL.take i)).length = i := by rw [marksSS_length]; simp; omega
  rw [List.getD_eq_getElem?_getD, List.getElem?_append_right (by omega), h2, Nat.sub_self, List.getElem?_drop, List.getD_eq_getElem?_getD]
  simp
theorem marksSS_getD : ∀ {LL : List (List Int)} (k : Int) {i : Nat}, i < LL.length → (marksSS k LL).getD i [] = marks (k + tot (LL.take i)) (LL.getD i []).length
  | [], k, i, h => by simp at h
  | L :: r, k, 0, _ => by simp [marksSS, tot_nil]
  | L :: r, k, i + 1, h => by
    have := marksSS_getD (LL := r) (k + L.length) (i := i) (by simpa using h)
    simp only [List.getD_eq_getElem?_getD, marksSS, List.getElem?_cons_succ, List.take_succ_cons, tot_cons] at this ⊢
    rw [this]; congr 1; omega

end Go.Proofs.Ytdchjhhpbdekeaa

/- The laws' helpers over rows of rows: sizes and copies. -/
namespace Go.Proofs.Ytdchjhhpbdekeaa
open Go Go.RowKit
set_option maxRecDepth 100000

def szI (n : Nat) (left : Int) : Int := if left - n < 0 then -1 else left - n
def szW (LL : List (List Int)) (left : Int) : Int := if (LL.length : Int) + tot LL ≤ left then left - ((LL.length : Int) + tot LL) else -1
theorem szW_ok {LL : List (List Int)} {left : Int} (h0 : 0 ≤ left) (h : ¬ szW LL left < 0) : (LL.length : Int) + tot LL ≤ left ∧ szW LL left = left - ((LL.length : Int) + tot LL) := by
  unfold szW at h ⊢
  split at h
  · rename_i h1; exact ⟨h1, by rw [if_pos h1]⟩
  · omega
theorem OwnRows.replicate {w B s n} (h : Own w B T_Sint s (List.replicate n Sl.nil.v)) : OwnRows w B s (List.replicate n Sl.nil) (List.replicate n []) := by
  refine ⟨by simpa using h, by simp, fun i r L e1 e2 => ?_, fun i j r t _ e1 e2 g hg => ?_⟩
  · rw [List.getElem?_replicate] at e1 e2
    split at e1
    · split at e2
      · simp only [Option.some.injEq] at e1 e2; subst e1 e2; exact Own.nil _ _ _
      · omega
    · cases e1
  · rw [List.getElem?_replicate] at e1
    split at e1
    · simp only [Option.some.injEq] at e1; subst e1; simp [Sl.blk, Sl.nil] at hg
    · cases e1
end Go.Proofs.Ytdchjhhpbdekeaa

/- Tableaux: both tests answer alike; the form of one. -/
namespace Go.Proofs.Ytdchjhhpbdekeaa
open Go Go.RowKit
set_option maxRecDepth 100000

def lens (LL : List (List Int)) : List Int := LL.map fun r => (r.length : Int)
theorem lens_length (LL : List (List Int)) : (lens LL).length = LL.length := by simp [lens]
theorem lens_getD (LL : List (List Int)) (i : Nat) : (lens LL).getD i 0 = ((LL.getD i []).length : Int) := by
  simp only [lens, List.getD_eq_getElem?_getD, List.getElem?_map]
  cases LL[i]? <;> simp
theorem lens_take_succ {LL : List (List Int)} {i : Nat} (h : i < LL.length) : lens (LL.take (i + 1)) = lens (LL.take i) ++ [((LL.getD i []).length : Int)] := by
  rw [getD_SS h, List.take_succ_eq_append_getElem h]; simp only [lens, List.map_append, List.map_cons, List.map_nil]
theorem lens_bd {LL : List (List Int)} (ht : tot LL < 2^38) : ∀ x ∈ lens LL, -9223372036854775808 ≤ x ∧ x ≤ 9223372036854775807 := by
  intro x hx
  simp only [lens, List.mem_map] at hx
  obtain ⟨r, hr, rfl⟩ := hx
  have := len_le_tot hr
  omega
theorem sm_lens (LL : List (List Int)) : ∀ k, k ≤ LL.length → sm (lens LL) k = (tot (LL.take k) : Int)
  | 0, _ => by simp [sm, tot_nil]
  | k + 1, hk => by
    have := sm_lens LL k (by omega)
    have h2 := tot_take_succ (LL := LL) (i := k) (by omega)
    rw [sm, this, lens_getD, h2]; omega
def at2 (LL : List (List Int)) (i j : Nat) : Int := (LL.getD i []).getD j 0
def ascAt (LL : List (List Int)) (i j : Nat) : Prop := (0 < j → at2 LL i (j - 1) ≤ at2 LL i j) ∧ (0 < i → at2 LL (i - 1) j ≤ at2 LL i j)
def Asc (LL : List (List Int)) : Prop := ∀ i j, i < LL.length → j < (LL.getD i []).length → ascAt LL i j
structure IsTab (LL : List (List Int)) : Prop where
  form : FormOk (lens LL) 8
  perm : IsP LL.flatten
  asc : Asc LL
theorem FormOk.tot {LL : List (List Int)} (h : FormOk (lens LL) 8) : Ytdchjhhpbdekeaa.tot LL ≤ 8 := by
  rcases Nat.eq_zero_or_pos LL.length with h1 | h1
  · have : LL = [] := List.eq_nil_of_length_eq_zero h1
    subst this; simp [Ytdchjhhpbdekeaa.tot]
  · have h2 := (h (LL.length - 1) (by rw [lens_length]; omega)).2.1
    have h3 := sm_lens LL LL.length (Nat.le_refl _)
    have h4 : sm (lens LL) LL.length = sm (lens LL) (LL.length - 1) + (lens LL).getD (LL.length - 1) 0 := by
      conv => lhs; rw [show LL.length = (LL.length - 1) + 1 by omega]
      rfl
    rw [List.take_length] at h3
    omega
theorem FormOk.step {LL : List (List Int)} (h : FormOk (lens LL) 8) {i : Nat} (hi : i < LL.length) (h0 : 0 < i) : (LL.getD i []).length ≤ (LL.getD (i - 1) []).length := by
  have := (h i (by rw [lens_length]; omega)).2.2 h0
  rw [lens_getD, lens_getD] at this; omega
theorem FormOk.pos {LL : List (List Int)} (h : FormOk (lens LL) 8) {i : Nat} (hi : i < LL.length) : 1 ≤ (LL.getD i []).length := by
  have := (h i (by rw [lens_length]; omega)).1
  rw [lens_getD] at this; omega
theorem FormOk.count {LL : List (List Int)} (h : FormOk (lens LL) 8) : LL.length ≤ 8 := by
  have h1 := sm_ge (L := lens LL) (k := LL.length) (fun j hj => (h j (by rw [lens_length]; omega)).1)
  have h2 := sm_lens LL LL.length (Nat.le_refl _)
  rw [List.take_length] at h2
  have := h.tot
  omega
theorem flatten_length (LL : List (List Int)) : LL.flatten.length = tot LL := by simp [List.length_flatten, tot]
theorem at2_mem {LL : List (List Int)} {i j : Nat} (hi : i < LL.length) (hj : j < (LL.getD i []).length) : at2 LL i j ∈ LL.flatten := by
  rw [at2, getD_lt hj]
  rw [List.mem_flatten]
  exact ⟨LL.getD i [], by rw [getD_SS hi]; exact List.getElem_mem hi, List.getElem_mem hj⟩
theorem flat_take_succ {LL : List (List Int)} {i : Nat} (h : i < LL.length) : (LL.take (i + 1)).flatten = (LL.take i).flatten ++ LL.getD i [] := by
  rw [getD_SS h, List.take_succ_eq_append_getElem h]; simp only [List.flatten_append, List.flatten_cons, List.flatten_nil, List.append_nil]
/-- Two places hold one number in a table without repeats: they are one place. -/
theorem nodup_row {LL : List (List Int)} (hn : LL.flatten.Nodup) {i j k : Nat} (hi : i < LL.length) (hj : j < (LL.getD i []).length) (hk : k < j) : at2 LL i k ≠ at2 LL i j := by
  have h1 : (LL.getD i []).Nodup := by
    rw [getD_SS hi]
    exact List.Nodup.sublist (List.sublist_flatten_of_mem (List.getElem_mem hi)) hn
  rw [List.nodup_iff_pairwise_ne, List.pairwise_iff_getElem] at h1
  rw [at2, at2, getD_lt hj, getD_lt (by omega)]
  exact h1 k j (by omega) hj hk
theorem nodup_col {LL : List (List Int)} (hn : LL.flatten.Nodup) {i j k l : Nat} (hi : i < LL.length) (hk : k < i) (hj : j < (LL.getD i []).length) (hl : l < (LL.getD k []).length) : at2 LL k l ≠ at2 LL i j := by
  have h1 : LL.Pairwise fun A B => ∀ x ∈ A, ∀ y ∈ B, x ≠ y := by
    have := hn
    rw [List.nodup_iff_pairwise_ne, List.pairwise_flatten] at this
    exact this.2
  rw [List.pairwise_iff_getElem] at h1
  rw [at2, at2, getD_lt hj, getD_lt hl]
  have := h1 k i (by omega) hi hk
  exact this _ (by simp only [getD_SS (show k < LL.length by omega)]; exact List.getElem_mem _) _ (by simp only [getD_SS hi]; exact List.getElem_mem _)

theorem c_form {w : World} {a : Sl} {LL : List (List Int)} (ha : RowSS w a LL) (hL : LL.length < 2^38) (ht : tot LL < 2^38) :
    Calls PP F.impl_form #[a.v] w fun e w' => ∃ s : Sl, e = .returned s.v ∧ OwnI w' w.heap.size s (lens LL) ∧ Below w.heap.size w w' := by
  have han := ha.n
  refine impl_form.calls a ?_
  rw [impl_form.E_s]
  refine lit0 oneInt (B := w.heap.size) (Nat.le_refl _) ?_
  intro t0 w1 hown hg _
  refine impl_form.L3_rule _ _ _ _ _ _ (I := fun t k w' => 0 ≤ k ∧ k ≤ LL.length ∧ OwnI w' w.heap.size t (lens (LL.take k.toNat)) ∧ Below w.heap.size w w') (μ := fun _ k _ => (LL.length - k).toNat)
    ⟨by omega, by omega, hown, below_of_grow hg⟩ ?_
  rintro t k w' ⟨h0, hk, ht1, hb⟩
  rw [impl_form.B3_s]
  refine bif_dec (fun h3 => ?_) (fun h3 => ?_)
  · refine RowSS.get (ha.grow hb) h0 (by omega) fun r hr => ?_
    have hrn : r.n = (LL.getD k.toNat []).length := by have := hr.n; simpa using this
    rw [hrn]
    refine append_int ht1 hb.size (by rw [lens_length]; simp; omega) ?_
    intro t' w2 ht2 hg2 _
    refine ⟨t', k + 1, by rw [w64_succ h0 (by omega)], ⟨by omega, by omega, ?_, hb.grown hg2 hb.size (fun g hg => (ht1.lt g hg).1)⟩, by omega⟩
    rw [show (k + 1).toNat = k.toNat + 1 by omega, lens_take_succ (by omega)]
    exact ht2
  · rw [impl_form.A3_0_s]
    rw [show k.toNat = LL.length by omega, List.take_length] at ht1
    exact ⟨t, rfl, ht1, hb⟩
theorem c_l19Lengths {w : World} {a : Sl} {LL : List (List Int)} (ha : RowSS w a LL) (hL : LL.length < 2^38) (ht : tot LL < 2^38) :
    Calls PP F.spec_l19Lengths #[a.v] w fun e w' => ∃ s : Sl, e = .returned s.v ∧ OwnI w' w.heap.size s (lens LL) ∧ Below w.heap.size w w' := by
  have han := ha.n
  refine spec_l19Lengths.calls a ?_
  rw [spec_l19Lengths.E_s]
  refine lit0 oneInt (B := w.heap.size) (Nat.le_refl _) ?_
  intro t0 w1 hown hg _
  refine spec_l19Lengths.L3_rule _ _ _ _ _ (I := fun t k w' => 0 ≤ k ∧ k ≤ LL.length ∧ OwnI w' w.heap.size t (lens (LL.take k.toNat)) ∧ Below w.heap.size w w') (μ := fun _ k _ => (LL.length - k).toNat)
    ⟨by omega, by omega, hown, below_of_grow hg⟩ ?_
  rintro t k w' ⟨h0, hk, ht1, hb⟩
  rw [spec_l19Lengths.B3_s]
  refine bif_dec (fun h3 => ?_) (fun h3 => ?_)
  · refine RowSS.get (ha.grow hb) h0 (by omega) fun r hr => ?_
    have hrn : r.n = (LL.getD k.toNat []).length := by have := hr.n; simpa using this
    rw [hrn]
    refine append_int ht1 hb.size (by rw [lens_length]; simp; omega) ?_
    intro t' w2 ht2 hg2 _
    refine ⟨t', k + 1, by rw [w64_succ h0 (by omega)], ⟨by omega, by omega, ?_, hb.grown hg2 hb.size (fun g hg => (ht1.lt g hg).1)⟩, by omega⟩
    rw [show (k + 1).toNat = k.toNat + 1 by omega, lens_take_succ (by omega)]
    exact ht2
  · rw [spec_l19Lengths.A3_0_s]
    rw [show k.toNat = LL.length by omega, List.take_length] at ht1
    exact ⟨t, rfl, ht1, hb⟩

theorem c_Grow {w : World} {n : Int} (h0 : 0 ≤ n) (hn : n < 2^38) :
    Calls PP F.slices_Grow___int_int_ #[Sl.nil.v, vI n] w fun e w' => ∃ s : Sl, e = .returned s.v ∧ OwnI w' w.heap.size s [] ∧ Below w.heap.size w w' := by
  refine slices_Grow___int_int_.calls Sl.nil n ?_
  rw [slices_Grow___int_int_.E_s]
  refine bif_dec (fun h => by omega) (fun h => ?_)
  rw [slices_Grow___int_int_.J3_s]
  have e0 : w64 (n - w64 ((Sl.nil.c : Int) - (Sl.nil.n : Int))) = n := by
    have : ((Sl.nil.c : Int) - (Sl.nil.n : Int)) = 0 := by simp [Sl.nil]
    rw [this, show w64 0 = 0 from w64_id (by omega) (by omega), w64_id (by omega) (by omega)]; omega
  rw [e0]
  refine bif_dec (fun h1 => ?_) (fun h1 => ?_)
  · refine ⟨by simp, by simp [Sl.nil], by simp [Sl.nil], ?_⟩
    have e1 : Sl.cut 1 Sl.nil ((none : Option Int).getD 0).toNat ((some (Sl.nil.c : Int)).getD (Sl.nil.n : Int)).toNat = Sl.nil := by simp [Sl.cut, Sl.nil]
    rw [e1]
    obtain ⟨i, hu, hi, hz, hs, hb, hzc⟩ := oneInt
    obtain ⟨m, rfl⟩ : ∃ m : Nat, n = m := ⟨n.toNat, by omega⟩
    have hui : PP.underlying T_int = some (.int .i64) := by kernel_rfl
    have hb2 : m * i.bytes ≤ 281474976710656 := by
      have : m * i.bytes ≤ m * 24 := Nat.mul_le_mul_left _ hb
      omega
    have hrun := Go.Lib.run_append_nil_zeros (P := PP) w T_Sint T_int T_Sint T_int i (vI 0) .i64 .i64 hu hui hi hz m (by omega) (by omega) (by omega) hb2
    have hge := grownCap_ge w m 0 T_int
    have hcm := grownCap_le_maxLen w m 0 T_int (by simp only [maxLen]; omega)
    refine ⟨⟨some ⟨w.heap.size, 0, none⟩, m, grownCap w m 0 T_int⟩, _, hrun, ?_⟩
    refine ⟨by simp, by simp [Sl.nil], by simp [Sl.nil], ?_⟩
    show slices_Grow___int_int_.J6 std _ _ _
    rw [slices_Grow___int_int_.J6_s]
    have hnew := heap_alloc_new w.drew (.cells (Builtin.zeroCells (vI 0).cells m ++ Builtin.zeroCells (vI 0).cells (grownCap w m 0 T_int - m)) T_int)
    refine ⟨_, rfl, ⟨by simp [Sl.cut, Sl.nil], by simp [Sl.cut, Sl.nil], by simp [Sl.cut]; exact hcm, .inr ⟨w.heap.size, _, ?_, Nat.le_refl _, hnew, ?_, ?_⟩⟩, ⟨rfl, rfl, rfl, by simp, fun k hk => heap_alloc_old w.drew _ hk⟩⟩
    · simp [Sl.cut]; exact fun _ => rfl
    · simp [Sl.cut, size_zeroCells, hzc]; omega
    · simp [Sl.cut, Sl.nil]
  · rw [slices_Grow___int_int_.J6_s]
    exact ⟨Sl.nil, rfl, Own.nil _ _ _, Below.refl _ _⟩
theorem c_Concat {w : World} {a : Sl} {LL : List (List Int)} (ha : RowSS w a LL) (hL : LL.length < 2^38) (ht : tot LL < 2^38) :
    Calls PP F.slices_Concat___int_int_ #[a.v] w fun e w' => ∃ s : Sl, e = .returned s.v ∧ OwnI w' w.heap.size s LL.flatten ∧ Below w.heap.size w w' := by
  have han := ha.n
  refine slices_Concat___int_int_.calls a ?_
  rw [slices_Concat___int_int_.E_s]
  refine slices_Concat___int_int_.L3_rule _ _ _ _ _ _ _ (I := fun m k w' => w' = w ∧ 0 ≤ k ∧ k ≤ LL.length ∧ m = tot (LL.take k.toNat)) (μ := fun _ k _ => (LL.length - k).toNat) ⟨rfl, by omega, by omega, by simp [tot_nil]⟩ ?_
  rintro m k w' ⟨rfl, h0, hk, hm⟩
  rw [slices_Concat___int_int_.B3_s]
  have h5 := tot_take_le LL k.toNat
  refine bif_dec (fun h3 => ?_) (fun h3 => ?_)
  · have hlt : k.toNat < LL.length := by omega
    refine RowSS.get ha h0 (by omega) fun r hr => ?_
    have hrn : r.n = (LL.getD k.toNat []).length := by have := hr.n; simpa using this
    have h4 := tot_take_succ hlt
    have h5 := tot_take_le LL (k.toNat + 1)
    rw [hrn, w64_id (n := m + ((LL.getD k.toNat []).length : Int)) (by omega) (by omega)]
    refine bif_dec (fun h6 => by omega) (fun h6 => ?_)
    exact ⟨_, k + 1, by rw [w64_succ h0 (by omega)], ⟨rfl, by omega, by omega, by rw [show (k + 1).toNat = k.toNat + 1 by omega, h4]; omega⟩, by omega⟩
  · rw [slices_Concat___int_int_.A3_0_s]
    refine (c_Grow (by omega) (by omega)).mono ?_
    rintro e w1 ⟨s, rfl, hs, hb⟩
    refine ⟨s, rfl, ?_⟩
    refine slices_Concat___int_int_.L11_rule _ _ _ _ _ _ (I := fun t j w2 => 0 ≤ j ∧ j ≤ LL.length ∧ OwnI w2 w'.heap.size t (LL.take j.toNat).flatten ∧ Below w'.heap.size w' w2) (μ := fun _ j _ => (LL.length - j).toNat)
      ⟨by omega, by omega, hs, hb⟩ ?_
    rintro t j w2 ⟨hj0, hj, ht2, hb2⟩
    rw [slices_Concat___int_int_.B11_s]
    refine bif_dec (fun h7 => ?_) (fun h7 => ?_)
    · have hlt : j.toNat < LL.length := by omega
      refine RowSS.get (ha.grow hb2) hj0 (by omega) fun r hr => ?_
      have h4 := tot_take_succ hlt
      have h5 := tot_take_le LL (j.toNat + 1)
      refine append_row oneInt ht2 hb2.size hr (fun v hv => by obtain ⟨x, _, rfl⟩ := List.mem_map.1 hv; exact One.int x) (by rw [List.length_map, List.length_map, flatten_length]; omega) ?_
      intro t' w3 ht3 hg3 _ _
      refine ⟨t', j + 1, by rw [w64_succ hj0 (by omega)], ⟨by omega, by omega, ?_, hb2.grown hg3 hb2.size (fun g hg => (ht2.lt g hg).1)⟩, by omega⟩
      rw [show (j + 1).toNat = j.toNat + 1 by omega, flat_take_succ hlt]
      simpa [OwnI] using ht3
    · rw [slices_Concat___int_int_.A11_2_s]
      rw [show j.toNat = LL.length by omega, List.take_length] at ht2
      exact ⟨t, rfl, ht2, hb2⟩

open Classical in
theorem c_implIsTableau0 {w : World} {a : Sl} {LL : List (List Int)} (ha : RowSS w a LL) (hL : LL.length < 2^38) (ht : tot LL < 2^38) :
    Calls PP F.impl_IsTableau #[a.v] w fun e w' => e = .returned (.bool (decide (IsTab LL))) ∧ Below w.heap.size w w' := by
  have han := ha.n
  refine impl_IsTableau.calls a ?_
  rw [impl_IsTableau.E_s]
  refine (c_form ha hL ht).mono ?_
  rintro e w1 ⟨s, rfl, hs, hb1⟩
  refine ⟨s, rfl, ?_⟩
  refine Quiet.call1 (s := .bool) (c_isForm hs.row (by rw [lens_length]; omega) (lens_bd ht) (by omega) (by omega)) ?_
  intro w2 hd2
  have hb2 := hb1.trans (hd2.below _)
  refine bif_intro (fun h => ?_) (fun h => ?_)
  · have h : ¬ FormOk (lens LL) 8 := by simpa using h
    have : ¬ IsTab LL := fun hh => h hh.form
    exact ⟨by simp [this], hb2⟩
  have hf : FormOk (lens LL) 8 := by simpa using h
  have h8 := hf.tot
  refine (c_Concat (ha.grow hb2) hL ht).mono ?_
  rintro e w3 ⟨t, rfl, ht3, hb23⟩
  refine ⟨t, rfl, ?_⟩
  have hb3 := hb2.trans (hb23.mono hb2.size)
  refine (c_isPerm ht3.row (by rw [flatten_length]; omega)).mono ?_
  rintro e w4 ⟨rfl, hb34⟩
  refine ⟨_, rfl, ?_⟩
  have hb4 := hb3.trans (hb34.mono hb3.size)
  refine bif_intro (fun h => ?_) (fun h => ?_)
  · have h : ¬ PermOk LL.flatten := by simpa using h
    have : ¬ IsTab LL := fun hh => h hh.perm.2
    exact ⟨by simp [this], hb4⟩
  have hp : IsP LL.flatten := ⟨by rw [flatten_length]; exact h8, by simpa using h⟩
  have ha4 := ha.grow hb4
  have bad : ∀ i j, i < LL.length → j < (LL.getD i []).length → ¬ ascAt LL i j → impl_IsTableau.q9 std (fun e w' => e = .returned (.bool (decide (IsTab LL))) ∧ Below w.heap.size w w') .ret [(2, .bool false)] w4 := by
    intro i j hi hj hn
    rw [impl_IsTableau.R4_s]
    have : ¬ IsTab LL := fun hh => hn (hh.asc i j hi hj)
    exact ⟨by simp [this], hb4⟩
  refine impl_IsTableau.L4_rule _ _ _ _ _ _ (I := fun i w' => w' = w4 ∧ 0 ≤ i ∧ i ≤ LL.length ∧ ∀ i', i' < i.toNat → ∀ j', j' < (LL.getD i' []).length → ascAt LL i' j') (μ := fun i _ => (LL.length - i).toNat) ⟨rfl, by omega, by omega, fun i' hi' => by simp at hi'⟩ ?_
  rintro i w' ⟨rfl, h0, hi, hall⟩
  rw [impl_IsTableau.B4_s]
  refine bif_dec (fun h3 => ?_) (fun h3 => ?_)
  · have hlt : i.toNat < LL.length := by omega
    refine RowSS.get ha4 h0 (by omega) fun r hr => ?_
    have hrn : r.n = (LL.getD i.toNat []).length := by have := hr.n; simpa using this
    rw [hrn]
    have h8' : (LL.getD i.toNat []).length ≤ 8 := by
      rw [getD_SS hlt]; exact Nat.le_trans (len_le_tot (List.getElem_mem hlt)) h8
    refine impl_IsTableau.L7_rule _ _ _ _ _ _ _ _ _ _ _ (I := fun j w2 => w2 = w' ∧ 0 ≤ j ∧ j ≤ (LL.getD i.toNat []).length ∧ ∀ j', j' < j.toNat → ascAt LL i.toNat j') (μ := fun j _ => ((LL.getD i.toNat []).length - j).toNat) ⟨rfl, by omega, by omega, fun j' hj' => by simp at hj'⟩ ?_
    rintro j w2 ⟨rfl, hj0, hj, hrow⟩
    rw [impl_IsTableau.B7_s]
    refine bif_dec (fun h5 => ?_) (fun h5 => ?_)
    · have hjlt : j.toNat < (LL.getD i.toNat []).length := by omega
      refine RowI.get hr hj0 (by omega) ?_
      have good : ascAt LL i.toNat j.toNat → ∃ t26_n, impl_IsTableau.emb7 a i r a (a.n : Int) i r ((LL.getD i.toNat []).length : Int) (w64 (j + 1)) = impl_IsTableau.emb7 a i r a (a.n : Int) i r ((LL.getD i.toNat []).length : Int) t26_n ∧
          (w2 = w2 ∧ 0 ≤ t26_n ∧ t26_n ≤ (LL.getD i.toNat []).length ∧ ∀ j', j' < t26_n.toNat → ascAt LL i.toNat j') ∧ ((LL.getD i.toNat []).length - t26_n).toNat < ((LL.getD i.toNat []).length - j).toNat := by
        intro hg
        refine ⟨j + 1, by rw [w64_succ hj0 (by omega)], ⟨rfl, by omega, by omega, fun j' hj' => ?_⟩, by omega⟩
        by_cases e : j' = j.toNat
        · rw [e]; exact hg
        · exact hrow j' (by omega)
      have colpart : (0 < j.toNat → at2 LL i.toNat (j.toNat - 1) ≤ at2 LL i.toNat j.toNat) → (bif decide (i > 0) then (idxK 1 a (w64 (i - 1)) fun a19 => load1 .sl a19 w2 fun ξ20 => idxK 1 ξ20 j fun a21 => load1 (.int .i64) a21 w2 fun (ξ22 : Int) => bif decide (ξ22 > at2 LL i.toNat j.toNat) then
          ((impl_IsTableau.q14 std (fun e2 w2_1 => ∃ t19_n, e2 = impl_IsTableau.emb4 a a (a.n : Int) t19_n ∧ (w2_1 = w2 ∧ 0 ≤ t19_n ∧ t19_n ≤ LL.length ∧ ∀ i', i' < t19_n.toNat → ∀ j', j' < (LL.getD i' []).length → ascAt LL i' j') ∧ (LL.length - t19_n).toNat < (LL.length - i).toNat)
            (impl_IsTableau.q9 std fun e w' => e = .returned (.bool (decide (IsTab LL))) ∧ Below w.heap.size w w')) .ret [(2, .bool false)] w2)
          else (∃ t26_n, impl_IsTableau.emb7 a i r a (a.n : Int) i r ((LL.getD i.toNat []).length : Int) (w64 (j + 1)) = impl_IsTableau.emb7 a i r a (a.n : Int) i r ((LL.getD i.toNat []).length : Int) t26_n ∧
          (w2 = w2 ∧ 0 ≤ t26_n ∧ t26_n ≤ (LL.getD i.toNat []).length ∧ ∀ j', j' < t26_n.toNat → ascAt LL i.toNat j') ∧ ((LL.getD i.toNat []).length - t26_n).toNat < ((LL.getD i.toNat []).length - j).toNat))
          else (∃ t26_n, impl_IsTableau.emb7 a i r a (a.n : Int) i r ((LL.getD i.toNat []).length : Int) (w64 (j + 1)) = impl_IsTableau.emb7 a i r a (a.n : Int) i r ((LL.getD i.toNat []).length : Int) t26_n ∧
          (w2 = w2 ∧ 0 ≤ t26_n ∧ t26_n ≤ (LL.getD i.toNat []).length ∧ ∀ j', j' < t26_n.toNat → ascAt LL i.toNat j') ∧ ((LL.getD i.toNat []).length - t26_n).toNat < ((LL.getD i.toNat []).length - j).toNat)) := by
        intro hrp
        refine bif_dec (fun h9 => ?_) (fun h9 => good ⟨hrp, fun h => by omega⟩)
        rw [w64_id (n := i - 1) (by omega) (by omega)]
        have e1 : (i - 1).toNat = i.toNat - 1 := by omega
        have hst := hf.step hlt (by omega)
        refine RowSS.get ha4 (by omega) (by omega) fun r2 hr2 => ?_
        rw [e1] at hr2
        refine RowI.get hr2 hj0 (by omega) ?_
        refine bif_dec (fun h10 => ?_) (fun h10 => ?_)
        · rw [impl_IsTableau.R7_s]
          exact bad i.toNat j.toNat hlt hjlt fun hg => by
            have := hg.2 (by omega)
            simp only [at2] at this h10; omega
        · exact good ⟨hrp, fun _ => by simp only [at2] at h10 ⊢; omega⟩
      refine bif_dec (fun h6 => ?_) (fun h6 => ?_)
      · rw [w64_id (n := j - 1) (by omega) (by omega)]
        refine RowI.get hr (by omega) (by omega) ?_
        have e1 : (j - 1).toNat = j.toNat - 1 := by omega
        rw [e1]
        refine bif_dec (fun h7 => ?_) (fun h7 => ?_)
        · rw [impl_IsTableau.R7_s]
          exact bad i.toNat j.toNat hlt hjlt fun hg => by
            have := hg.1 (by omega)
            simp only [at2] at this; omega
        · exact colpart fun _ => by simp only [at2]; omega
      · exact colpart fun h => by omega
    · rw [impl_IsTableau.A7_2_s]
      refine ⟨i + 1, by rw [w64_succ h0 (by omega)], ⟨rfl, by omega, by omega, fun i' hi' j' hj' => ?_⟩, by omega⟩
      by_cases e : i' = i.toNat
      · subst e; exact hrow j' (by omega)
      · exact hall i' (by omega) j' hj'
  · rw [impl_IsTableau.A4_0_s]
    have : IsTab LL := ⟨hf, hp, fun i' j' hi' hj' => hall i' (by omega) j' hj'⟩
    exact ⟨by simp [this], hb4⟩
end Go.Proofs.Ytdchjhhpbdekeaa

/- The draws of tableaux and forms. -/
namespace Go.Proofs.Ytdchjhhpbdekeaa
open Go Go.RowKit
set_option maxRecDepth 100000

/-! ### Steps beside a cursor -/
structure Dr (w0 wb w : World) (c : Addr) : Prop where
  cur : Cur w0 w c
  keeps : Keeps (CS c) wb w
  lt : c.block < wb.heap.size
theorem Dr.start {w0 w c} (h : Cur w0 w c) : Dr w0 w w c := ⟨h, Keeps.refl _ _, h.lt.2⟩
theorem Dr.step {w0 wb w w' c} {S : Nat → Prop} (h : Dr w0 wb w c) (hk : Keeps S w w') (hS : ∀ k, S k → wb.heap.size ≤ k) : Dr w0 wb w' c := by
  have h1 := h.cur.lt
  have h2 := h.lt
  have h3 := h.keeps.size
  refine ⟨h.cur.keeps hk fun k hk => ⟨?_, ?_⟩, ⟨hk.os.trans h.keeps.os, hk.tape.trans h.keeps.tape, hk.output.trans h.keeps.output, Nat.le_trans h3 hk.size, fun x hx hn => ?_⟩, h2⟩
  · have := hS k hk; omega
  · have := hS k hk; omega
  · exact (hk.block x (by omega) (fun hs => by have := hS x hs; omega)).trans (h.keeps.block x hx hn)
theorem Dr.grow {w0 wb w w' c} (h : Dr w0 wb w c) (hb : Below w.heap.size w w') : Dr w0 wb w' c :=
  h.step (keeps_grown (grow_of_below hb)) fun k hk => by cases hk
theorem Dr.curs {w0 wb w w' c} (h : Dr w0 wb w c) (hc : Cur w0 w' c) (hk : Keeps (CS c) w w') : Dr w0 wb w' c := ⟨hc, h.keeps.trans hk, h.lt⟩
theorem OwnRows.curs {w w' B s rs LL c} (h : OwnRows w B s rs LL) (hk : Keeps (CS c) w w') (hc : c.block < B) : OwnRows w' B s rs LL :=
  h.keepsF hk fun g hg hs => by have := (h.footLt hg).1; unfold CS at hs; omega
theorem OwnRows.place {w B s rs LL} (h : OwnRows w B s rs LL) {i : Int} (h0 : 0 ≤ i) (hi : i < LL.length) {K : Addr → Prop}
    (hk : ∀ a (r : Sl), rs[i.toNat]? = some r → (∀ w', OwnRows w' B s rs LL → w'.cell? a = some r.v) → K a) : idxK 1 s i K := by
  have hlt : i.toNat < rs.length := by have := h.len; omega
  have hv : (rs.map Sl.v)[i.toNat]? = some rs[i.toNat].v := by rw [List.getElem?_map, List.getElem?_eq_getElem hlt]; rfl
  obtain ⟨a, ha, hc⟩ := h.out.row.cell i.toNat _ hv
  have hn := h.out.n
  rw [List.length_map] at hn
  refine ⟨a, ha, h0, by omega, ?_⟩
  rw [Nat.mul_one]
  refine hk _ _ (List.getElem?_eq_getElem hlt) fun w' h' => ?_
  obtain ⟨a', ha', hc'⟩ := h'.out.row.cell i.toNat _ hv
  rw [ha] at ha'
  cases ha'
  exact hc'

/-! ### Small tables -/
structure Small (LL : List (List Int)) : Prop where
  len : LL.length ≤ 8
  tot : tot LL ≤ 8
  ne : ∀ r, r < LL.length → LL.getD r [] ≠ []
theorem upTo_nodup (n : Nat) : (upTo n).Nodup := by
  rw [List.nodup_iff_pairwise_ne, upTo, List.pairwise_map]
  exact List.pairwise_lt_range.imp fun h e => by omega
theorem len_le_tots : ∀ {T : List (List Int)}, (∀ r, r < T.length → T.getD r [] ≠ []) → T.length ≤ tot T
  | [], _ => Nat.zero_le _
  | R :: T, h => by
    have h1 := List.length_pos_iff.2 (h 0 (by simp))
    have h2 := len_le_tots (T := T) fun r hr => by simpa using h (r + 1) (by simpa using hr)
    rw [tot_cons, List.length_cons]
    simp only [List.getD_cons_zero] at h1
    omega
theorem small_ins {L : List Int} {n : Nat} (h : L.Perm (upTo n)) (hn : n ≤ 8) : Small (insP L) ∧ Small (insQ L L.length) := by
  have hl : L.length = n := by rw [h.length_eq, upTo_length]
  have nd : L.Nodup := h.nodup_iff.2 (upTo_nodup n)
  obtain ⟨t1, _, _⟩ := insP_all nd
  have t2 : tot (insP L) = n := by rw [← flatten_length, insP_flat, hl]
  have ne1 : ∀ r, r < (insP L).length → (insP L).getD r [] ≠ [] := fun r hr => (tab_rows t1 r hr).1
  have q1 := insQ_length L L.length (Nat.le_refl _)
  have q2 := insQ_lens (w := L) L.length (Nat.le_refl _)
  rw [List.take_length] at q1 q2
  have ne2 : ∀ r, r < (insQ L L.length).length → (insQ L L.length).getD r [] ≠ [] := fun r hr e => by
    have h1 := q2 r
    rw [e] at h1
    exact ne1 r (by omega) (List.eq_nil_of_length_eq_zero h1.symm)
  have q3 : tot (insQ L L.length) = n := by
    have h1 := tots_lens q2 (insP L).length
    rw [List.take_length, List.take_of_length_le (by omega)] at h1
    exact h1.trans t2
  have l1 := len_le_tots ne1
  exact ⟨⟨by omega, by omega, ne1⟩, ⟨by omega, by omega, ne2⟩⟩

/-! ### The draws -/
/-- What a drawn table is. -/
def DrawnT (w0 wb : World) (c : Addr) (e : Ending) (w' : World) : Prop :=
  ∃ (s : Sl) (LL : List (List Int)), e = .returned s.v ∧ OwnSS w' wb.heap.size s LL ∧ LL.length ≤ 9 ∧ tot LL ≤ 8 ∧ Dr w0 wb w' c
theorem drawJ6 {w0 wb w : World} {c : Addr} {s : Sl} {rs : List Sl} {LL : List (List Int)} (hd : Dr w0 wb w c) (h : OwnRows w wb.heap.size s rs LL) (hl : LL.length ≤ 8) (ht : tot LL ≤ 8) :
    spec_l19Draw.J6 std c s w (DrawnT w0 wb c) := by
  rw [spec_l19Draw.J6_s]
  refine (c_l1Once hd.cur (n := 14) (by omega)).mono ?_
  rintro e w1 ⟨b, rfl, hc1, hk1⟩
  refine ⟨b, rfl, ?_⟩
  have hd1 := hd.curs hc1 hk1
  have h1 := h.curs hk1 hd.lt
  refine bif_intro (fun _ => ?_) (fun _ => ?_)
  · refine lit0 oneInt (B := w1.heap.size) (Nat.le_refl _) ?_
    intro r w2 hr hg2 _
    have hb2 := below_of_grow hg2
    refine OwnRows.pushF h1 hb2 hd1.keeps.size (r := r) (L := []) (by simpa [OwnI] using hr.mono hd1.keeps.size) (fun g hg => (hr.lt g hg).1) (by omega) ?_
    intro s' w3 h3 hs3
    refine ⟨s', LL ++ [[]], rfl, ⟨_, h3⟩, by simp; omega, by rw [tot_append]; simp [tot]; exact ht, hd1.step hs3.keeps fun k hk => (h1.footLt hk).1⟩
  · exact ⟨s, LL, rfl, ⟨_, h1⟩, by omega, ht, hd1⟩
theorem drawJ4 {w0 wb w : World} {c : Addr} {s : Sl} {rs : List Sl} {LL : List (List Int)} (hd : Dr w0 wb w c) (h : OwnRows w wb.heap.size s rs LL) (hs : Small LL) :
    spec_l19Draw.J4 std c s w (DrawnT w0 wb c) := by
  have hsn : s.n = LL.length := by have := h.out.n; have := h.len; simp_all
  rw [spec_l19Draw.J4_s, hsn]
  refine bif_dec (fun h0 => ?_) (fun h0 => drawJ6 hd h hs.len hs.tot)
  refine (c_l1Once hd.cur (n := 12) (by omega)).mono ?_
  rintro e w1 ⟨b, rfl, hc1, hk1⟩
  refine ⟨b, rfl, ?_⟩
  have hd1 := hd.curs hc1 hk1
  have h1 := h.curs hk1 hd.lt
  refine bif_intro (fun _ => ?_) (fun _ => drawJ6 hd1 h1 hs.len hs.tot)
  refine drew_intro fun w2 hd2 => ?_
  have h2 := h1.heap hd2.heap'
  have hdd2 := hd1.step (hd2.keeps fun _ => False) fun k hk => hk.elim
  refine OwnRows.place h2 (by omega) (by omega) fun a r hr hcell => ?_
  have hpos : 0 < (LL.getD 0 []).length := List.length_pos_iff.2 (hs.ne 0 (by omega))
  have hlt : 0 < LL.length := by omega
  have fin : ∀ (x : Int) (w3 : World), Dr w0 wb w3 c → OwnRows w3 wb.heap.size s rs LL → idxK 1 r 0 fun a16 => storeC a16 (vI x) w3 fun w17 => spec_l19Draw.J6 std c s w17 (DrawnT w0 wb c) := by
    intro x w3 hd3 h3
    have hor : OwnI w3 wb.heap.size r (LL.getD 0 []) := h3.at_ 0 r _ hr (by rw [getD_SS hlt, List.getElem?_eq_getElem hlt])
    refine Own.put hor (by omega) (by rw [List.length_map]; omega) ?_
    intro w4 ho4 hg4 _
    have h4 : OwnRows w4 wb.heap.size s rs (LL.set 0 ((LL.getD 0 []).set 0 x)) := h3.inside hr (by simpa [OwnI, List.map_set] using ho4) hg4
    have hset : tot (LL.set 0 ((LL.getD 0 []).set 0 x)) = tot LL := by
      cases LL with
      | nil => rfl
      | cons R T => simp [tot]
    exact drawJ6 (hd3.step (keeps_grown hg4) fun k hk => (hor.lt k hk).1) h4 (by rw [List.length_set]; exact hs.len) (by rw [hset]; exact hs.tot)
  constructor
  · refine ⟨r, hcell w2 h2, ?_⟩
    refine (c_l1Below hdd2.cur (n := 10) (by omega)).mono ?_
    rintro e w3 ⟨x, rfl, _, _, hc3, hk3⟩
    exact ⟨x, rfl, fin x w3 (hdd2.curs hc3 hk3) (h2.curs hk3 hd.lt)⟩
  · refine (c_l1Below hdd2.cur (n := 10) (by omega)).mono ?_
    rintro e w3 ⟨x, rfl, _, _, hc3, hk3⟩
    have h3 := h2.curs hk3 hd.lt
    exact ⟨x, rfl, ⟨r, hcell w3 h3, fin x w3 (hdd2.curs hc3 hk3) h3⟩⟩
theorem c_l19Draw {w0 w : World} {c : Addr} (hc : Cur w0 w c) : Calls PP F.spec_l19Draw #[.pointer (some c)] w (DrawnT w0 w c) := by
  refine spec_l19Draw.calls c ?_
  rw [spec_l19Draw.E_s]
  refine (c_l2Any hc).mono ?_
  rintro e w1 ⟨s, L, n, rfl, hs, hp, hn, hc1, hk1⟩
  refine ⟨s, rfl, ?_⟩
  have hl : L.length = n := by rw [hp.length_eq, upTo_length]
  refine (c_l19Insert hs.row (by omega)).mono ?_
  rintro e w2 ⟨p, q, rp, rq, rfl, hP, hQ, _, hb2⟩
  refine ⟨p, q, rfl, ?_⟩
  have hd2 := (((Dr.start hc).curs hc1 hk1).grow hb2)
  obtain ⟨sP, sQ⟩ := small_ins hp hn
  refine (c_l1Once hd2.cur (n := 2) (by omega)).mono ?_
  rintro e w3 ⟨b, rfl, hc3, hk3⟩
  refine ⟨b, rfl, ?_⟩
  have hd3 := hd2.curs hc3 hk3
  refine bif_intro (fun _ => ?_) (fun _ => ?_)
  · exact drawJ4 hd3 ((hQ.mono hk1.size).curs hk3 hc.lt.2) sQ
  · exact drawJ4 hd3 ((hP.mono hk1.size).curs hk3 hc.lt.2) sP
theorem c_DrawInsertPerm {w : World} {a : Sl} {L : List Int} (ha : RowB w a L) (hL : L.length < 2^60) :
    Calls PP F.spec_DrawInsertPerm #[a.v] w fun e w' => ∃ (s : Sl) (M : List Int), e = .returned s.v ∧ RowI w' s M ∧ M.length < 2^38 ∧ Below w.heap.size w w' := by
  refine spec_DrawInsertPerm.calls a ?_
  rw [spec_DrawInsertPerm.E_s]
  exact c_bentOf ha hL fun s M w' hs hM hb => ⟨s, M, rfl, hs.row, by have := hM.1; omega, hb⟩
theorem c_DrawTurnTableau {w : World} {a : Sl} {L : List Int} (ha : RowB w a L) (hL : L.length < 2^60) :
    Calls PP F.spec_DrawTurnTableau #[a.v] w fun e w' => ∃ (s : Sl) (M : List (List Int)), e = .returned s.v ∧ RowSS w' s M ∧ M.length ≤ 9 ∧ tot M ≤ 8 ∧ Below w.heap.size w w' := by
  refine spec_DrawTurnTableau.calls a ?_
  rw [spec_DrawTurnTableau.E_s]
  refine (c_l1New ha hL).mono ?_
  rintro e w1 ⟨c, rfl, hc⟩
  refine ⟨some c, rfl, ?_⟩
  refine (c_l19Draw hc).mono ?_
  rintro e w2 ⟨s, M, rfl, hs, hl, ht, hd⟩
  exact ⟨s, rfl, s, M, rfl, hs.row, hl, ht, hd.cur.below⟩
theorem c_DrawPermOfTableaux {w : World} {a : Sl} {L : List Int} (ha : RowB w a L) (hL : L.length < 2^60) :
    Calls PP F.spec_DrawPermOfTableaux #[a.v] w fun e w' => ∃ (s t : Sl) (M N : List (List Int)), e = .returned (.tuple #[s.v, t.v]) ∧ RowSS w' s M ∧ M.length ≤ 9 ∧ tot M ≤ 8 ∧ RowSS w' t N ∧ N.length ≤ 9 ∧ tot N ≤ 8 ∧ Below w.heap.size w w' := by
  refine spec_DrawPermOfTableaux.calls a ?_
  rw [spec_DrawPermOfTableaux.E_s]
  refine (c_l1New ha hL).mono ?_
  rintro e w1 ⟨c, rfl, hc⟩
  refine ⟨some c, rfl, ?_⟩
  refine (c_l2Any hc).mono ?_
  rintro e w2 ⟨s, L, n, rfl, hs, hp, hn, hc2, hk2⟩
  refine ⟨s, rfl, ?_⟩
  have hl : L.length = n := by rw [hp.length_eq, upTo_length]
  refine (c_l19Insert hs.row (by omega)).mono ?_
  rintro e w3 ⟨p, q, rp, rq, rfl, hP, hQ, _, hb3⟩
  refine ⟨p, q, rfl, ?_⟩
  obtain ⟨sP, sQ⟩ := small_ins hp hn
  have hc3 := hc2.grow hb3
  refine (c_l1Once hc3 (n := 6) (by omega)).mono ?_
  rintro e w4 ⟨b, rfl, hc4, hk4⟩
  refine ⟨b, rfl, ?_⟩
  have lP := sP.len
  have tP := sP.tot
  have lQ := sQ.len
  have tQ := sQ.tot
  have hP4 := hP.curs hk4 hc2.lt.2
  have hQ4 := hQ.curs hk4 hc2.lt.2
  refine bif_intro (fun _ => ?_) (fun _ => ?_)
  · refine (c_l19Draw hc4).mono ?_
    rintro e w5 ⟨u, M, rfl, hu, hul, hut, hd⟩
    exact ⟨u, rfl, u, q, M, _, rfl, hu.row, hul, hut, (hQ4.curs hd.keeps hc2.lt.2).row, by omega, tQ, hd.cur.below⟩
  · exact ⟨p, q, _, _, rfl, hP4.row, by omega, tP, hQ4.row, by omega, tQ, hc4.below⟩
theorem c_DrawTableauxOf {w : World} {a : Sl} {L : List Int} (ha : RowB w a L) (hL : L.length < 2^60) :
    Calls PP F.spec_DrawTableauxOf #[a.v] w fun e w' => ∃ (s : Sl) (M : List Int), e = .returned s.v ∧ OwnI w' w.heap.size s M ∧ M.length < 2^38 ∧ (∀ x ∈ M, -9223372036854775808 ≤ x ∧ x ≤ 9223372036854775807) ∧ Below w.heap.size w w' := by
  refine spec_DrawTableauxOf.calls a ?_
  rw [spec_DrawTableauxOf.E_s]
  refine (c_l1New ha hL).mono ?_
  rintro e w1 ⟨c, rfl, hc⟩
  refine ⟨some c, rfl, ?_⟩
  show Calls PP F.spec_l19DrawForm _ _ _
  refine spec_l19DrawForm.calls c ?_
  rw [spec_l19DrawForm.E_s]
  refine (c_l19Draw hc).mono ?_
  rintro e w2 ⟨t, M, rfl, ht, hl, htt, hd⟩
  refine ⟨t, rfl, ?_⟩
  refine (c_l19Lengths ht.row (by omega) (by omega)).mono ?_
  rintro e w3 ⟨s, rfl, hs, hb3⟩
  refine ⟨s, rfl, ?_⟩
  have hc3 := hd.cur.grow hb3
  have hbd := lens_bd (LL := M) (by omega)
  refine (c_l1Once hc3 (n := 10) (by omega)).mono ?_
  rintro e w4 ⟨b, rfl, hc4, hk4⟩
  refine ⟨b, rfl, ?_⟩
  have hs4 := Own.curs hs hk4 hd.cur.lt.2
  have hw2 : w.heap.size ≤ w2.heap.size := hd.cur.below.size
  have hll : (lens M).length = M.length := lens_length M
  refine bif_intro (fun _ => ?_) (fun _ => ?_)
  · refine (c_l1Below hc4 (n := 5) (by omega)).mono ?_
    rintro e w5 ⟨x, rfl, hx0, hx1, hc5, hk5⟩
    refine ⟨x, rfl, ?_⟩
    have hs5 := Own.curs hs4 hk5 hd.cur.lt.2
    have ex := w64_id (n := x - 1) (by omega) (by omega)
    dsimp only
    rw [ex]
    refine append_int hs5 (Nat.le_trans hb3.size (Nat.le_trans hk4.size hk5.size)) (by omega) ?_
    intro s' w6 hs' hg6 _
    refine ⟨s', rfl, s', _, rfl, hs'.mono hw2, by simp; omega, fun y hy => ?_, (hc5.keeps (keeps_grown hg6) fun k hk => ?_).below⟩
    · rcases List.mem_append.1 hy with hy | hy
      · exact hbd y hy
      · simp at hy; omega
    · have h1 := (hs5.lt k hk).1
      have h2 := hd.cur.lt
      omega
  · exact ⟨s, rfl, s, _, rfl, hs4.mono hw2, by omega, hbd, hc4.below⟩
end Go.Proofs.Ytdchjhhpbdekeaa

/- A number changed in a table. No program in sight. -/
namespace Go.Proofs.Ytdchjhhpbdekeaa
open Go
set_option maxRecDepth 100000

theorem flat_set {T : List (List Int)} {r c : Nat} {x : Int} (hr : r < T.length) (hc : c < (T.getD r []).length) : ((T.getD r []).getD c 0 :: (T.set r ((T.getD r []).set c x)).flatten).Perm (x :: T.flatten) := by
  have h1 : T = T.take r ++ T.getD r [] :: T.drop (r + 1) := by rw [List.getD_eq_getElem?_getD, List.getElem?_eq_getElem hr]; simp
  have h2 : T.set r ((T.getD r []).set c x) = T.take r ++ (T.getD r []).set c x :: T.drop (r + 1) := by rw [List.set_eq_take_append_cons_drop, if_pos hr]
  rw [h2]
  conv => rhs; rw [h1]
  generalize hR : T.getD r [] = R at *
  have h3 : R = R.take c ++ R.getD c 0 :: R.drop (c + 1) := by rw [getD_lt hc]; simp
  have h4 : R.set c x = R.take c ++ x :: R.drop (c + 1) := by rw [List.set_eq_take_append_cons_drop, if_pos hc]
  rw [h4]
  conv => rhs; rw [h3]
  generalize R.getD c 0 = m
  generalize R.take c = A
  generalize R.drop (c + 1) = D
  generalize T.take r = U
  generalize T.drop (r + 1) = V
  simp only [List.flatten_append, List.flatten_cons, List.append_assoc, List.cons_append]
  rw [← List.append_assoc U.flatten A, ← List.append_assoc U.flatten A]
  refine (List.Perm.cons m List.perm_middle).trans ?_
  refine (List.Perm.swap x m _).trans ?_
  exact List.Perm.cons x List.perm_middle.symm
end Go.Proofs.Ytdchjhhpbdekeaa

/- The way back out of a tableau. No program in sight. -/
namespace Go.Proofs.Ytdchjhhpbdekeaa
open Go
set_option maxRecDepth 100000

/-- The last place, from c down, whose number is not greater. -/
def dn (R : List Int) (n : Int) : Nat → Nat
  | 0 => 0
  | c + 1 => if R.getD (c + 1) 0 > n then dn R n c else c + 1
theorem dn_le (R : List Int) (n : Int) : ∀ c, dn R n c ≤ c
  | 0 => Nat.le_refl _
  | c + 1 => by have := dn_le R n c; rw [dn]; split <;> omega
theorem dn_gt (R : List Int) (n : Int) : ∀ c j, dn R n c < j → j ≤ c → n < R.getD j 0
  | 0, j, h1, h2 => by omega
  | c + 1, j, h1, h2 => by
    rw [dn] at h1
    split at h1
    · by_cases e : j = c + 1
      · subst e; assumption
      · exact dn_gt R n c j h1 (by omega)
    · omega
theorem dn_at {R : List Int} {n : Int} : ∀ {c j : Nat}, j ≤ c → R.getD j 0 ≤ n → R.getD (dn R n c) 0 ≤ n ∧ j ≤ dn R n c
  | 0, j, h1, h2 => by have : j = 0 := by omega
                       subst this; exact ⟨h2, Nat.le_refl _⟩
  | c + 1, j, h1, h2 => by
    rw [dn]
    split
    · rename_i h3
      have : j ≠ c + 1 := by intro e; subst e; omega
      exact dn_at (by omega) h2
    · exact ⟨by omega, by omega⟩
def bumpUp (T : List (List Int)) (n : Int) : Nat → List (List Int) × Int
  | 0 => (T, n)
  | q + 1 => bumpUp (T.set q ((T.getD q []).set (dn (T.getD q []) n ((T.getD q []).length - 1)) n)) ((T.getD q []).getD (dn (T.getD q []) n ((T.getD q []).length - 1)) 0) q
def takeAt (T : List (List Int)) (r : Nat) : List (List Int) × Int := bumpUp (T.set r ((T.getD r []).take ((T.getD r []).length - 1))) ((T.getD r []).getD ((T.getD r []).length - 1) 0) r

/-- Rows and columns ascend; rows may be empty. -/
structure WTab (T : List (List Int)) : Prop where
  inc : ∀ r, r < T.length → Inc (T.getD r [])
  under : ∀ r, r + 1 < T.length → Under (T.getD r []) (T.getD (r + 1) [])
theorem getD_setR (T : List (List Int)) (i j : Nat) (R : List Int) : (T.set i R).getD j [] = if i = j ∧ i < T.length then R else T.getD j [] := by
  simp only [List.getD_eq_getElem?_getD, List.getElem?_set]
  by_cases h : i = j
  · subst h
    by_cases h2 : i < T.length
    · simp [h2]
    · simp [h2]
  · simp [h]
/-- On the way up: row r has been left, n is in hand. -/
structure BQ (T : List (List Int)) (n : Int) (r : Nat) : Prop where
  tab : WTab T
  nd : (n :: T.flatten).Nodup
  link : 0 < r → r < T.length ∧ ∃ c, c < (T.getD (r - 1) []).length ∧ (T.getD (r - 1) []).getD c 0 < n ∧ ∀ j, c ≤ j → j < (T.getD r []).length → n < (T.getD r []).getD j 0
theorem BQ.not_mem {T : List (List Int)} {n : Int} {r : Nat} (h : BQ T n r) {q : Nat} (hq : q < T.length) : n ∉ T.getD q [] := fun hm =>
  (List.nodup_cons.1 h.nd).1 (List.mem_flatten.2 ⟨T.getD q [], by rw [List.getD_eq_getElem?_getD, List.getElem?_eq_getElem hq]; exact List.getElem_mem hq, hm⟩)
theorem BQ.at_ {T : List (List Int)} {n : Int} {q : Nat} (h : BQ T n (q + 1)) : q < T.length ∧ 0 < (T.getD q []).length ∧ dn (T.getD q []) n ((T.getD q []).length - 1) < (T.getD q []).length ∧ (T.getD q []).getD (dn (T.getD q []) n ((T.getD q []).length - 1)) 0 < n := by
  obtain ⟨h1, c, h2, h3, _⟩ := h.link (by omega)
  rw [Nat.add_sub_cancel] at h2 h3
  have hd := dn_le (T.getD q []) n ((T.getD q []).length - 1)
  have ha := dn_at (R := T.getD q []) (n := n) (c := (T.getD q []).length - 1) (j := c) (by omega) (by omega)
  have hl : dn (T.getD q []) n ((T.getD q []).length - 1) < (T.getD q []).length := by omega
  refine ⟨by omega, by omega, hl, ?_⟩
  rcases Int.lt_or_eq_of_le ha.1 with h4 | h4
  · exact h4
  · exfalso
    refine h.not_mem (q := q) (by omega) ?_
    rw [← h4, getD_lt hl]; exact List.getElem_mem hl
theorem BQ.step {T : List (List Int)} {n : Int} {q : Nat} (h : BQ T n (q + 1)) : BQ (T.set q ((T.getD q []).set (dn (T.getD q []) n ((T.getD q []).length - 1)) n)) ((T.getD q []).getD (dn (T.getD q []) n ((T.getD q []).length - 1)) 0) q := by
  obtain ⟨hq, hpos, hcl, hlt⟩ := h.at_
  obtain ⟨hq1, c', hc1, hc2, hc3⟩ := h.link (by omega)
  rw [Nat.add_sub_cancel] at hc1 hc2
  have hge := (dn_at (R := T.getD q []) (n := n) (c := (T.getD q []).length - 1) (j := c') (by omega) (by omega)).2
  have hgt := dn_gt (T.getD q []) n ((T.getD q []).length - 1)
  generalize dn (T.getD q []) n ((T.getD q []).length - 1) = c at *
  have hI := h.tab.inc q hq
  refine ⟨⟨fun r hr => ?_, fun r hr => ?_⟩, ?_, fun h0 => ⟨by rw [List.length_set]; omega, c, ?_, ?_, fun j hj hjl => ?_⟩⟩
  · rw [List.length_set] at hr
    rw [getD_setR]
    split
    · rename_i e
      obtain ⟨rfl, _⟩ := e
      refine Inc.of_getD fun i j hij hj => ?_
      rw [List.length_set] at hj
      rw [getD_set', getD_set']
      have h5 := hI.getD hij hj
      by_cases e1 : c = i
      · rw [if_pos ⟨e1, hcl⟩, if_neg (by omega)]
        exact hgt j (by omega) (by omega)
      · rw [if_neg (by omega)]
        split
        · rename_i e2; have e3 := e2.1; subst e3; omega
        · exact h5
    · exact h.tab.inc r hr
  · rw [List.length_set] at hr
    have hu := h.tab.under r hr
    rw [getD_setR, getD_setR]
    by_cases e1 : q = r
    · subst e1
      rw [if_pos ⟨rfl, hq⟩, if_neg (by omega)]
      refine ⟨by rw [List.length_set]; exact hu.1, fun j hj => ?_⟩
      rw [getD_set']
      split
      · rename_i e2; have e3 := e2.1; subst e3; exact hc3 c hge hj
      · exact hu.2 j hj
    · rw [if_neg (by omega)]
      by_cases e2 : q = r + 1
      · subst e2
        rw [if_pos ⟨rfl, hq⟩]
        refine ⟨by rw [List.length_set]; exact hu.1, fun j hj => ?_⟩
        rw [List.length_set] at hj
        have h5 := hu.2 j hj
        rw [getD_set']
        split
        · rename_i e3; have e4 := e3.1; subst e4; omega
        · exact h5
      · rw [if_neg (by omega)]; exact hu
  · exact (flat_set hq hcl).nodup_iff.2 h.nd
  · rw [getD_setR, if_neg (by omega)]
    have := (h.tab.under (q - 1) (by omega)).1
    rw [show q - 1 + 1 = q by omega] at this
    omega
  · rw [getD_setR, if_neg (by omega)]
    have := (h.tab.under (q - 1) (by omega)).2 c (by rw [show q - 1 + 1 = q by omega]; exact hcl)
    rw [show q - 1 + 1 = q by omega] at this
    exact this
  · rw [getD_setR, if_pos ⟨rfl, hq⟩] at hjl ⊢
    rw [List.length_set] at hjl
    rw [getD_set']
    split
    · exact hlt
    · rename_i e; exact hI.getD (by omega) hjl
theorem bumpUp_inv : ∀ (r : Nat) {T : List (List Int)} {n : Int}, BQ T n r → BQ (bumpUp T n r).1 (bumpUp T n r).2 0 ∧ (bumpUp T n r).1.length = T.length ∧ (∀ i, ((bumpUp T n r).1.getD i []).length = (T.getD i []).length) ∧ ((bumpUp T n r).2 :: (bumpUp T n r).1.flatten).Perm (n :: T.flatten)
  | 0, T, n, h => ⟨h, rfl, fun _ => rfl, List.Perm.refl _⟩
  | q + 1, T, n, h => by
    obtain ⟨hq, _, hcl, _⟩ := h.at_
    obtain ⟨h1, h2, h3, h4⟩ := bumpUp_inv q h.step
    rw [bumpUp]
    refine ⟨h1, by rw [h2, List.length_set], fun i => ?_, h4.trans (flat_set hq hcl)⟩
    rw [h3, getD_setR]
    split
    · rename_i e; rw [List.length_set, e.1]
    · rfl
theorem flat_pop {T : List (List Int)} {r : Nat} (hr : r < T.length) (h0 : 0 < (T.getD r []).length) : ((T.getD r []).getD ((T.getD r []).length - 1) 0 :: (T.set r ((T.getD r []).take ((T.getD r []).length - 1))).flatten).Perm T.flatten := by
  have h1 : T = T.take r ++ T.getD r [] :: T.drop (r + 1) := by rw [List.getD_eq_getElem?_getD, List.getElem?_eq_getElem hr]; simp
  have h2 : T.set r ((T.getD r []).take ((T.getD r []).length - 1)) = T.take r ++ (T.getD r []).take ((T.getD r []).length - 1) :: T.drop (r + 1) := by rw [List.set_eq_take_append_cons_drop, if_pos hr]
  rw [h2]
  conv => rhs; rw [h1]
  generalize T.getD r [] = R at *
  have h3 : R = R.take (R.length - 1) ++ [R.getD (R.length - 1) 0] := by
    rw [getD_lt (by omega)]
    conv => lhs; rw [← List.take_length (l := R), show R.length = R.length - 1 + 1 by omega]
    simp
  conv => rhs; rw [h3]
  generalize R.getD (R.length - 1) 0 = m
  generalize R.take (R.length - 1) = A
  generalize T.take r = U
  generalize T.drop (r + 1) = V
  simp only [List.flatten_append, List.flatten_cons, List.append_assoc]
  rw [← List.append_assoc U.flatten A, ← List.append_assoc U.flatten A]
  exact List.perm_middle.symm
theorem take_BQ {T : List (List Int)} {r : Nat} (h : WTab T) (hn : T.flatten.Nodup) (hr : r < T.length) (h0 : 0 < (T.getD r []).length) (hc : r + 1 < T.length → (T.getD (r + 1) []).length < (T.getD r []).length) :
    BQ (T.set r ((T.getD r []).take ((T.getD r []).length - 1))) ((T.getD r []).getD ((T.getD r []).length - 1) 0) r := by
  have gt : ∀ j, j < (T.getD r []).length - 1 → ((T.getD r []).take ((T.getD r []).length - 1)).getD j 0 = (T.getD r []).getD j 0 := fun j hj => by
    rw [List.getD_eq_getElem?_getD, List.getElem?_take, if_pos hj, ← List.getD_eq_getElem?_getD]
  refine ⟨⟨fun i hi => ?_, fun i hi => ?_⟩, (flat_pop hr h0).nodup_iff.2 hn, fun hr0 => ⟨by rw [List.length_set]; exact hr, (T.getD r []).length - 1, ?_, ?_, fun j hj hjl => ?_⟩⟩
  · rw [List.length_set] at hi
    rw [getD_setR]
    split
    · rename_i e; exact (h.inc r hr).sublist (List.take_sublist _ _)
    · exact h.inc i hi
  · rw [List.length_set] at hi
    have hu := h.under i hi
    rw [getD_setR, getD_setR]
    by_cases e1 : r = i
    · subst e1
      rw [if_pos ⟨rfl, hr⟩, if_neg (by omega)]
      have := hc hi
      refine ⟨by rw [List.length_take]; omega, fun j hj => ?_⟩
      rw [gt j (by omega)]; exact hu.2 j hj
    · rw [if_neg (by omega)]
      by_cases e2 : r = i + 1
      · subst e2
        rw [if_pos ⟨rfl, hr⟩]
        refine ⟨by rw [List.length_take]; have := hu.1; omega, fun j hj => ?_⟩
        rw [List.length_take] at hj
        rw [gt j (by omega)]; exact hu.2 j (by omega)
      · rw [if_neg (by omega)]; exact hu
  · rw [getD_setR, if_neg (by omega)]
    have := (h.under (r - 1) (by omega)).1
    rw [show r - 1 + 1 = r by omega] at this
    omega
  · rw [getD_setR, if_neg (by omega)]
    have := (h.under (r - 1) (by omega)).2 ((T.getD r []).length - 1) (by rw [show r - 1 + 1 = r by omega]; omega)
    rw [show r - 1 + 1 = r by omega] at this
    exact this
  · rw [getD_setR, if_pos ⟨rfl, hr⟩, List.length_take] at hjl
    omega

/-! ### The tableau that keeps the order -/
def rowOf (b : List (List Int)) (k : Int) : Nat := if b.findIdx (fun R => R.contains k) < b.length then b.findIdx (fun R => R.contains k) else 0
def popT (b : List (List Int)) : Nat → List (List Int) → List Int
  | 0, _ => []
  | k + 1, T => popT b k (takeAt T (rowOf b ((k : Int) + 1))).1 ++ [(takeAt T (rowOf b ((k : Int) + 1))).2]
theorem popT_length (b : List (List Int)) : ∀ k T, (popT b k T).length = k
  | 0, _ => rfl
  | k + 1, T => by rw [popT, List.length_append, popT_length b k]; rfl
/-- Numbers 1..k are left. -/
structure PotS (b : List (List Int)) (k : Nat) (T C : List (List Int)) : Prop where
  wt : WTab T
  nt : T.flatten.Nodup
  wc : WTab C
  pc : C.flatten.Perm (idn k)
  lt : T.length = b.length
  lc : C.length = b.length
  same : ∀ r, (T.getD r []).length = (C.getD r []).length
  pre : ∀ r, C.getD r [] <+: b.getD r []
theorem getD_mem_flat {T : List (List Int)} {r : Nat} {x : Int} (h : x ∈ T.getD r []) : r < T.length ∧ x ∈ T.flatten := by
  by_cases hr : r < T.length
  · exact ⟨hr, List.mem_flatten.2 ⟨T.getD r [], by rw [List.getD_eq_getElem?_getD, List.getElem?_eq_getElem hr]; exact List.getElem_mem hr, h⟩⟩
  · rw [List.getD_eq_getElem?_getD, List.getElem?_eq_none (by omega)] at h; simp at h
theorem mem_flat_getD {T : List (List Int)} {x : Int} (h : x ∈ T.flatten) : ∃ r, r < T.length ∧ x ∈ T.getD r [] := by
  obtain ⟨R, hR, hx⟩ := List.mem_flatten.1 h
  obtain ⟨r, hr, rfl⟩ := List.getElem_of_mem hR
  exact ⟨r, hr, by rw [List.getD_eq_getElem?_getD, List.getElem?_eq_getElem hr]; exact hx⟩
theorem nodup_rows {T : List (List Int)} (hn : T.flatten.Nodup) {r s : Nat} {x : Int} (h1 : x ∈ T.getD r []) (h2 : x ∈ T.getD s []) : r = s := by
  have hr := (getD_mem_flat h1).1
  have hs := (getD_mem_flat h2).1
  rw [List.getD_eq_getElem?_getD, List.getElem?_eq_getElem hr] at h1
  rw [List.getD_eq_getElem?_getD, List.getElem?_eq_getElem hs] at h2
  rw [List.nodup_iff_pairwise_ne, List.pairwise_flatten] at hn
  have hp := List.pairwise_iff_getElem.1 hn.2
  rcases Nat.lt_trichotomy r s with h | h | h
  · exact absurd rfl (hp r s hr hs h x h1 x h2)
  · exact h
  · exact absurd rfl (hp s r hs hr h x h2 x h1)
theorem rowOf_eq {b : List (List Int)} (hn : b.flatten.Nodup) {r : Nat} {k : Int} (h : k ∈ b.getD r []) : rowOf b k = r := by
  have hr := (getD_mem_flat h).1
  have hf : b.findIdx (fun R => R.contains k) < b.length := by
    rw [List.findIdx_lt_length]
    exact ⟨b.getD r [], by rw [List.getD_eq_getElem?_getD, List.getElem?_eq_getElem hr]; exact List.getElem_mem hr, by simpa using h⟩
  rw [rowOf, if_pos hf]
  have h1 := List.findIdx_getElem (w := hf)
  refine nodup_rows hn (x := k) ?_ h
  rw [List.getD_eq_getElem?_getD, List.getElem?_eq_getElem hf]
  simpa using h1
/-- What the next number meets. -/
structure PotN (b : List (List Int)) (k : Nat) (T C : List (List Int)) (r : Nat) : Prop where
  row : rowOf b ((k : Int) + 1) = r
  lt : r < b.length
  posC : 0 < (C.getD r []).length
  last : (C.getD r []).getD ((C.getD r []).length - 1) 0 = (k : Int) + 1
  only : ∀ s, s < C.length → 0 < (C.getD s []).length → (C.getD s []).getD ((C.getD s []).length - 1) 0 = (k : Int) + 1 → s = r
  bq : BQ (T.set r ((T.getD r []).take ((T.getD r []).length - 1))) ((T.getD r []).getD ((T.getD r []).length - 1) 0) r
  next : PotS b k (takeAt T r).1 (C.set r ((C.getD r []).take ((C.getD r []).length - 1)))
theorem PotS.step {b : List (List Int)} {k : Nat} {T C : List (List Int)} (hb : b.flatten.Nodup) (h : PotS b (k + 1) T C) : ∃ r, PotN b k T C r := by
  have hmem : ((k : Int) + 1) ∈ C.flatten := h.pc.mem_iff.2 (mem_idn.2 ⟨by omega, by omega⟩)
  have hle : ∀ x ∈ C.flatten, x ≤ (k : Int) + 1 := fun x hx => by have := mem_idn.1 (h.pc.mem_iff.1 hx); omega
  have hnc : C.flatten.Nodup := h.pc.nodup_iff.2 (idn_nodup _)
  obtain ⟨r, hr, hx⟩ := mem_flat_getD hmem
  have hpos : 0 < (C.getD r []).length := List.length_pos_of_mem hx
  have hlast : (C.getD r []).getD ((C.getD r []).length - 1) 0 = (k : Int) + 1 := by
    obtain ⟨i, hi, hxi⟩ := List.getElem_of_mem hx
    have hl := hle ((C.getD r []).getD ((C.getD r []).length - 1) 0) (getD_mem_flat (r := r) (by rw [getD_lt (by omega)]; exact List.getElem_mem _)).2
    by_cases e : i = (C.getD r []).length - 1
    · subst e; rw [getD_lt (by omega)]; exact hxi
    · have := (h.wc.inc r hr).getD (i := i) (j := (C.getD r []).length - 1) (by omega) (by omega)
      rw [getD_lt hi, hxi] at this
      omega
  have hcorner : r + 1 < C.length → (C.getD (r + 1) []).length < (C.getD r []).length := fun hr1 => by
    have hu := h.wc.under r hr1
    rcases Nat.lt_or_ge (C.getD (r + 1) []).length (C.getD r []).length with h1 | h1
    · exact h1
    · exfalso
      have h2 := hu.2 ((C.getD r []).length - 1) (by omega)
      have h3 := hle ((C.getD (r + 1) []).getD ((C.getD r []).length - 1) 0) (getD_mem_flat (r := r + 1) (by rw [getD_lt (by omega)]; exact List.getElem_mem _)).2
      omega
  have hsame := h.same
  have hrb : r < b.length := by have := h.lc; omega
  have hbq : BQ (T.set r ((T.getD r []).take ((T.getD r []).length - 1))) ((T.getD r []).getD ((T.getD r []).length - 1) 0) r :=
    take_BQ h.wt h.nt (by have := h.lt; omega) (by rw [hsame]; exact hpos) (fun h1 => by rw [hsame, hsame]; exact hcorner (by have := h.lt; have := h.lc; omega))
  have hbc : BQ (C.set r ((C.getD r []).take ((C.getD r []).length - 1))) ((C.getD r []).getD ((C.getD r []).length - 1) 0) r := take_BQ h.wc hnc hr hpos hcorner
  obtain ⟨h1, h2, h3, h4⟩ := bumpUp_inv r hbq
  refine ⟨r, rowOf_eq hb ((h.pre r).subset hx), hrb, hpos, hlast, fun s hs h5 h6 => ?_, hbq, ?_⟩
  · refine nodup_rows hnc (x := (k : Int) + 1) ?_ hx
    rw [← h6, getD_lt (by omega)]; exact List.getElem_mem _
  · refine ⟨h1.tab, (List.nodup_cons.1 h1.nd).2, hbc.tab, ?_, ?_, by rw [List.length_set]; exact h.lc, fun s => ?_, fun s => ?_⟩
    · have h5 := flat_pop hr hpos
      rw [hlast] at h5
      have h6 := h5.trans h.pc
      rw [idn_succ] at h6
      have h7 : (idn k ++ [(k : Int) + 1]).Perm (((k : Int) + 1) :: idn k) := List.perm_append_comm (l₂ := [(k : Int) + 1])
      exact List.Perm.cons_inv (h6.trans h7)
    · show (bumpUp _ _ r).1.length = _
      rw [h2, List.length_set]; exact h.lt
    · show ((bumpUp _ _ r).1.getD s []).length = _
      rw [h3, getD_setR, getD_setR]
      have hl1 := h.lt
      have hl2 := h.lc
      by_cases e : r = s
      · subst e
        rw [if_pos ⟨rfl, by omega⟩, if_pos ⟨rfl, by omega⟩, List.length_take, List.length_take, hsame]
      · rw [if_neg (by omega), if_neg (by omega)]; exact hsame s
    · rw [getD_setR]
      split
      · rename_i e; rw [← e.1]; exact (List.take_prefix _ _).trans (h.pre r)
      · exact h.pre s
end Go.Proofs.Ytdchjhhpbdekeaa

/- The tableau of the reverse is turned; turning twice; the way back. No program in sight. -/
namespace Go.Proofs.Ytdchjhhpbdekeaa
open Go
set_option maxRecDepth 100000

/-! ### Columns -/
def colT (T : List (List Int)) (c : Nat) : List Int := T.filterMap fun r => r[c]?
def turnT (T : List (List Int)) : List (List Int) := (List.range (T.getD 0 []).length).map (colT T)
theorem colT_cons (R : List Int) (T : List (List Int)) (c : Nat) : colT (R :: T) c = if c < R.length then R.getD c 0 :: colT T c else colT T c := by
  unfold colT
  rw [List.filterMap_cons]
  split
  · rename_i h
    rw [if_neg]
    intro hc; rw [List.getElem?_eq_getElem hc] at h; cases h
  · rename_i x h
    obtain ⟨hc, hx⟩ := List.getElem?_eq_some_iff.1 h
    rw [if_pos hc, List.getD_eq_getElem?_getD, h]; rfl
theorem tab_len_le {T : List (List Int)} (h : Tab T) {i j : Nat} (hij : i ≤ j) (hj : j < T.length) : (T.getD j []).length ≤ (T.getD i []).length := by
  rcases Nat.lt_or_ge i j with h1 | h1
  · have := (List.pairwise_iff_getElem.1 h.under i j (by omega) hj h1).1
    rwa [List.getD_eq_getElem?_getD, List.getD_eq_getElem?_getD, List.getElem?_eq_getElem hj, List.getElem?_eq_getElem (show i < T.length by omega)]
  · have : i = j := by omega
    subst this; exact Nat.le_refl _
theorem under_getD {T : List (List Int)} (h : Tab T) {i j : Nat} (hij : i < j) (hj : j < T.length) : Under (T.getD i []) (T.getD j []) := by
  have := List.pairwise_iff_getElem.1 h.under i j (by omega) hj hij
  rwa [List.getD_eq_getElem?_getD, List.getD_eq_getElem?_getD, List.getElem?_eq_getElem hj, List.getElem?_eq_getElem (show i < T.length by omega)]
/-- A column's numbers are the rows' at its place. -/
theorem colT_get : ∀ {T : List (List Int)}, Tab T → ∀ (c r : Nat), (colT T c)[r]? = (T.getD r [])[c]?
  | [], _, c, r => by simp [colT]
  | R :: T, h, c, r => by
    have ih := colT_get h.tail c
    rw [colT_cons]
    split
    · rename_i hc
      cases r with
      | zero => simp [List.getElem?_eq_getElem hc, List.getD_eq_getElem?_getD]
      | succ r => simpa using ih r
    · rename_i hc
      have hz : ∀ r, (T.getD r [])[c]? = none := fun r => by
        rw [List.getElem?_eq_none_iff]
        by_cases hr : r < T.length
        · have := tab_len_le h (i := 0) (j := r + 1) (by omega) (by simpa using hr)
          simp only [List.getD_cons_succ, List.getD_cons_zero] at this
          omega
        · rw [List.getD_eq_getElem?_getD, List.getElem?_eq_none (by omega)]; simp
      rw [ih r, hz r]
      cases r with
      | zero => simp only [List.getD_cons_zero]; rw [List.getElem?_eq_none (by omega)]
      | succ r => simp only [List.getD_cons_succ]; rw [hz r]
theorem turnT_length (T : List (List Int)) : (turnT T).length = (T.getD 0 []).length := by simp [turnT]
theorem turnT_getD {T : List (List Int)} (h : Tab T) (c : Nat) : (turnT T).getD c [] = colT T c := by
  by_cases hc : c < (T.getD 0 []).length
  · rw [turnT, List.getD_eq_getElem?_getD, List.getElem?_map, List.getElem?_range hc]; rfl
  · rw [List.getD_eq_getElem?_getD, List.getElem?_eq_none (by rw [turnT_length]; omega)]
    symm
    apply List.eq_nil_iff_length_eq_zero.2
    rcases Nat.eq_zero_or_pos (colT T c).length with h1 | h1
    · exact h1
    · exfalso
      have h2 := colT_get h c 0
      rw [List.getElem?_eq_getElem h1, List.getElem?_eq_none (by omega)] at h2
      cases h2
theorem tab_ne {T : List (List Int)} (h : Tab T) {r : Nat} (hr : r < T.length) : 0 < (T.getD r []).length := List.length_pos_iff.2 (tab_rows h r hr).1
theorem opt_getD {l : List Int} {i : Nat} (h : i < l.length) : l[i]? = some (l.getD i 0) := by simp [List.getD_eq_getElem?_getD, List.getElem?_eq_getElem h]
theorem len_of_get {a b : List Int} {i j : Nat} (h : a[i]? = b[j]?) : i < a.length ↔ j < b.length := by
  constructor
  · intro h1; rw [List.getElem?_eq_getElem h1] at h; exact (List.getElem?_eq_some_iff.1 h.symm).1
  · intro h1; rw [List.getElem?_eq_getElem h1] at h; exact (List.getElem?_eq_some_iff.1 h).1
theorem colT_at {T : List (List Int)} (h : Tab T) {c r : Nat} (hr : r < (colT T c).length) : r < T.length ∧ c < (T.getD r []).length ∧ (colT T c).getD r 0 = (T.getD r []).getD c 0 := by
  have h1 := colT_get h c r
  have h2 := (len_of_get h1).1 hr
  refine ⟨?_, h2, ?_⟩
  · rcases Nat.lt_or_ge r T.length with h3 | h3
    · exact h3
    · rw [List.getD_eq_getElem?_getD, List.getElem?_eq_none h3] at h2; simp at h2
  · rw [List.getD_eq_getElem?_getD, h1, ← List.getD_eq_getElem?_getD]
theorem colT_inc {T : List (List Int)} (h : Tab T) (c : Nat) : Inc (colT T c) := by
  refine Inc.of_getD fun i j hij hj => ?_
  obtain ⟨j1, j2, j3⟩ := colT_at h hj
  obtain ⟨i1, i2, i3⟩ := colT_at h (show i < (colT T c).length by omega)
  rw [i3, j3]
  exact (under_getD h hij j1).2 c j2
/-- Rows that are not empty, ascend, and stand one under the other. -/
theorem tab_of : ∀ {T : List (List Int)}, (∀ r, r < T.length → T.getD r [] ≠ [] ∧ Inc (T.getD r [])) → (∀ r, r + 1 < T.length → Under (T.getD r []) (T.getD (r + 1) [])) → Tab T
  | [], _, _ => trivial
  | R :: T, h1, h2 => by
    refine ⟨(h1 0 (by simp)).1, (h1 0 (by simp)).2, fun S hS => ?_, tab_of (fun r hr => by simpa using h1 (r + 1) (by simpa using hr)) fun r hr => by simpa using h2 (r + 1) (by simpa using hr)⟩
    cases T with
    | nil => cases hS
    | cons U T =>
      have := h2 0 (by simp)
      simp only [List.head?_cons, Option.some.injEq] at hS
      subst hS
      simpa using this
theorem turn_tab {T : List (List Int)} (h : Tab T) : Tab (turnT T) := by
  refine tab_of (fun c hc => ?_) (fun c hc => ?_)
  · rw [turnT_getD h]
    rw [turnT_length] at hc
    refine ⟨fun e => ?_, colT_inc h c⟩
    have := (len_of_get (colT_get h c 0)).2 hc
    rw [e] at this; simp at this
  · rw [turnT_getD h, turnT_getD h]
    have key : ∀ r, r < (colT T (c + 1)).length → r < (colT T c).length ∧ (colT T c).getD r 0 < (colT T (c + 1)).getD r 0 := fun r hr => by
      obtain ⟨r1, r2, r3⟩ := colT_at h hr
      have h1 := (len_of_get (colT_get h c r)).2 (by omega)
      obtain ⟨_, _, s3⟩ := colT_at h h1
      exact ⟨h1, by rw [r3, s3]; exact (tab_rows h r r1).2.getD (by omega) r2⟩
    refine ⟨?_, fun r hr => (key r hr).2⟩
    rcases Nat.lt_or_ge (colT T c).length (colT T (c + 1)).length with h1 | h1
    · have := (key _ h1).1; omega
    · exact h1
theorem turn_turn {T : List (List Int)} (h : Tab T) : turnT (turnT T) = T := by
  have ht := turn_tab h
  have hl : (turnT (turnT T)).length = T.length := by
    rw [turnT_length, turnT_getD h]
    rcases Nat.lt_trichotomy (colT T 0).length T.length with h1 | h1 | h1
    · have := (len_of_get (colT_get h 0 (colT T 0).length)).2 (tab_ne h h1); omega
    · exact h1
    · obtain ⟨h2, _⟩ := colT_at h h1; omega
  apply List.ext_getElem hl
  intro r h1 h2
  have e : (turnT (turnT T)).getD r [] = T.getD r [] := by
    rw [turnT_getD ht]
    apply List.ext_getElem?
    intro c
    rw [colT_get ht, turnT_getD h, colT_get h]
  rw [List.getD_eq_getElem?_getD, List.getD_eq_getElem?_getD, List.getElem?_eq_getElem h1, List.getElem?_eq_getElem h2] at e
  exact e

/-! ### Counts of columns -/
theorem cle_le (m : Int) (R : List Int) : cle m R ≤ R.length := List.length_filter_le _ _
theorem cle_col {m : Int} : ∀ {T : List (List Int)}, Tab T → ∀ c, cle m (colT T c) = T.countP fun R => decide (c < cle m R)
  | [], _, c => rfl
  | R :: T, h, c => by
    have ih := cle_col (m := m) h.tail c
    obtain ⟨_, p2⟩ := fm_pre (m := m) h.2.1
    have hle := cle_le m R
    rw [List.countP_cons, ← ih, colT_cons]
    split
    · rename_i hc
      rw [cle_cons]
      have := p2 c hc
      by_cases h5 : c < cle m R
      · rw [if_pos (this.2 h5), decide_eq_true h5]; simp; omega
      · rw [if_neg (fun h6 => h5 (this.1 h6)), decide_eq_false h5]; simp
    · rw [decide_eq_false (by omega)]; simp
def minS (k : Nat) (m : Int) (T : List (List Int)) : Nat := (T.map fun R => min k (cle m R)).sum
theorem cnk_turn {T : List (List Int)} (h : Tab T) (m : Int) : ∀ k, cnk (turnT T) m k = minS k m T
  | 0 => by
    unfold minS cnk
    induction T with
    | nil => rfl
    | cons R T ih => simpa using ih h.tail
  | k + 1 => by
    rw [cnk, cnk_turn h m k, turnT_getD h, cle_col h]
    unfold minS
    clear h
    induction T with
    | nil => rfl
    | cons R T ih =>
      simp only [List.map_cons, List.sum_cons, List.countP_cons]
      by_cases h5 : k < cle m R
      · rw [decide_eq_true h5]; simp; omega
      · rw [decide_eq_false h5]; simp; omega

/-! ### The reverse -/
def colR (k : Nat) : Nat → List Int → List (Int × Nat)
  | _, [] => []
  | i, x :: R => (x, if i < k then i + 1 else 0) :: colR k (i + 1) R
theorem colR_wd (k : Nat) : ∀ (i : Nat) (R : List Int), wd (colR k i R) = R
  | _, [] => rfl
  | i, x :: R => by
    have := colR_wd k (i + 1) R
    unfold wd at this ⊢
    simp [colR, this]
theorem colR_get (k : Nat) : ∀ (i : Nat) (R : List Int) (j : Nat) (x : Int × Nat), (colR k i R)[j]? = some x → j < R.length ∧ x.1 = R.getD j 0 ∧ x.2 = if i + j < k then i + j + 1 else 0
  | _, [], j, x, h => by simp [colR] at h
  | i, y :: R, 0, x, h => by simp [colR] at h; subst h; simp
  | i, y :: R, j + 1, x, h => by
    have := colR_get k (i + 1) R j x (by simpa [colR] using h)
    refine ⟨by simpa using this.1, by simpa using this.2.1, ?_⟩
    rw [this.2.2, show i + 1 + j = i + (j + 1) by omega]
theorem colR_cnt (k : Nat) : ∀ (i : Nat) (R : List Int), cnt (colR k i R) = min (k - i) R.length
  | i, [] => by simp [colR, cnt]
  | i, x :: R => by
    have := colR_cnt k (i + 1) R
    rw [colR, cnt_cons, this]
    by_cases h : i < k
    · rw [if_pos h, if_pos (by simp)]; simp; omega
    · rw [if_neg h, if_neg (by simp)]; simp; omega
def paintC (k : Nat) : List (List Int) → List (Int × Nat)
  | [] => []
  | R :: T => (colR k 0 R).reverse ++ paintC k T
theorem paintC_wd (k : Nat) : ∀ T, wd (paintC k T) = (tword T).reverse
  | [] => rfl
  | R :: T => by
    have h1 := colR_wd k 0 R
    have h2 := paintC_wd k T
    rw [paintC, wd_append, h2, tword, List.reverse_append]
    unfold wd at h1 ⊢
    rw [List.map_reverse, h1]
theorem paintC_mem (k : Nat) : ∀ (T : List (List Int)), ∀ x ∈ paintC k T, x.2 ≤ k ∧ ∃ R ∈ T, ∃ j : Nat, (colR k 0 R)[j]? = some x
  | [], x, h => by cases h
  | R :: T, x, h => by
    rw [paintC] at h
    rcases List.mem_append.1 h with h | h
    · obtain ⟨j, hj, e⟩ := List.getElem_of_mem (List.mem_reverse.1 h)
      have h1 : (colR k 0 R)[j]? = some x := by rw [List.getElem?_eq_getElem hj, e]
      obtain ⟨_, _, h2⟩ := colR_get k 0 R j x h1
      refine ⟨?_, R, by simp, j, h1⟩
      rw [h2]; split <;> omega
    · obtain ⟨h1, S, hS, h2⟩ := paintC_mem k T x h
      exact ⟨h1, S, by simp [hS], h2⟩
theorem paintC_asc (k : Nat) : ∀ {T : List (List Int)}, T.Pairwise Under → AscW (paintC k T)
  | [], _ => List.Pairwise.nil
  | R :: T, h => by
    rw [List.pairwise_cons] at h
    unfold AscW
    rw [paintC, List.pairwise_append]
    refine ⟨?_, paintC_asc k h.2, fun x hx y hy e1 e2 => ?_⟩
    · rw [List.pairwise_reverse, List.pairwise_iff_getElem]
      intro i j hi hj hij e1 e2
      obtain ⟨_, _, a3⟩ := colR_get k 0 R i _ (List.getElem?_eq_getElem hi)
      obtain ⟨_, _, b3⟩ := colR_get k 0 R j _ (List.getElem?_eq_getElem hj)
      rw [a3, b3] at e1
      rw [b3] at e2
      by_cases c1 : 0 + j < k
      · rw [if_pos c1] at e1
        by_cases c2 : 0 + i < k
        · rw [if_pos c2] at e1; omega
        · rw [if_neg c2] at e1; omega
      · rw [if_neg c1] at e2; exact absurd rfl e2
    · obtain ⟨i, hi, ex⟩ := List.getElem_of_mem (List.mem_reverse.1 hx)
      obtain ⟨a1, a2, a3⟩ := colR_get k 0 R i x (by rw [List.getElem?_eq_getElem hi, ex])
      obtain ⟨_, S, hS, j, hj⟩ := paintC_mem k T y hy
      obtain ⟨b1, b2, b3⟩ := colR_get k 0 S j y hj
      have hU := h.1 S hS
      have hij : i = j := by
        rw [a3, b3] at e1
        rw [a3] at e2
        by_cases c1 : 0 + i < k
        · rw [if_pos c1] at e1
          by_cases c2 : 0 + j < k
          · rw [if_pos c2] at e1; omega
          · rw [if_neg c2] at e1; omega
        · rw [if_neg c1] at e2; exact absurd rfl e2
      subst hij
      rw [a2, b2]
      exact hU.2 i b1
theorem paintC_cnt (k : Nat) : ∀ T : List (List Int), cnt (paintC k T) = (T.map fun R => min k R.length).sum
  | [] => by simp [paintC, cnt]
  | R :: T => by
    have h1 := colR_cnt k 0 R
    have h2 := paintC_cnt k T
    have h3 : cnt (colR k 0 R).reverse = cnt (colR k 0 R) := by unfold cnt; rw [List.filter_reverse, List.length_reverse]
    rw [paintC, cnt_append, h2, h3, h1]; simp
theorem rev_upper (k : Nat) : ∀ {T : List (List Int)} {W : List (Int × Nat)}, (∀ R ∈ T, Inc R) → wd W = (tword T).reverse → AscW W → (∀ x ∈ W, x.2 ≤ k) → cnt W ≤ (T.map fun R => min k R.length).sum
  | [], W, _, h, _, _ => by
    have : W = [] := by simpa [wd, tword] using h
    subst this; simp [cnt]
  | R :: T, W, hI, h, hA, hk => by
    rw [tword, List.reverse_append] at h
    unfold wd at h
    obtain ⟨V, U, rfl, h1, h2⟩ := List.map_eq_append_iff.1 h
    unfold AscW at hA
    rw [List.pairwise_append] at hA
    have hu := rev_upper k (T := T) (W := U) (fun S hS => hI S (by simp [hS])) h2 hA.2.1 (fun x hx => hk x (by simp [hx]))
    have hl : V.length = R.length := by have := congrArg List.length h1; simpa using this
    have hdesc : V.Pairwise fun x y => y.1 < x.1 := by
      have h3 : (V.map (·.1)).Pairwise fun a b => b < a := by
        rw [h1, List.pairwise_reverse]; exact hI R (by simp)
      rwa [List.pairwise_map] at h3
    have hv : cnt V ≤ k := cnt_distinct k (fun x hx => hk x (by simp [hx])) ((hdesc.and hA.1).imp fun {a b} hab e => by
      rcases Nat.eq_zero_or_pos a.2 with h0 | h0
      · exact h0
      · have := hab.2 e (by omega); have := hab.1; omega)
    have hv2 : cnt V ≤ V.length := List.length_filter_le _ _
    rw [cnt_append]
    simp only [List.map_cons, List.sum_cons]
    omega
theorem most_rev {T : List (List Int)} (h : Tab T) (m : Int) (k : Nat) : Most k (fm m (tword T)).reverse (minS k m T) := by
  have e : minS k m T = ((T.map (fm m)).map fun R => min k R.length).sum := by unfold minS; rw [List.map_map]; rfl
  have hi := h.inc
  rw [fm_tword, e]
  refine ⟨⟨paintC k (T.map (fm m)), paintC_wd k _, paintC_asc k ?_, fun x hx => (paintC_mem k _ x hx).1, paintC_cnt k _⟩, ?_⟩
  · rw [List.pairwise_map]
    exact List.Pairwise.imp_of_mem (fun hA hB hAB => under_fm (hi _ hA) (hi _ hB) hAB) h.under
  · rintro n' ⟨W, w1, w2, w3, rfl⟩
    refine rev_upper k (fun R hR => ?_) w1 w2 w3
    obtain ⟨S, hS, rfl⟩ := List.mem_map.1 hR; exact inc_fm (hi S hS)
theorem insP_rev {p : List Int} {n : Nat} (hp : p.Nodup) (hb : ∀ x ∈ p, 0 ≤ x ∧ x ≤ n) : insP p.reverse = turnT (insP p) := by
  have hr : p.reverse.Nodup := (List.reverse_perm p).nodup_iff.2 hp
  obtain ⟨t1, t2, _⟩ := insP_all hr
  obtain ⟨s1, s2, s3⟩ := insP_all hp
  have tt := turn_tab s1
  refine rows_eq (n := n) (tab_rows t1) (tab_rows tt) (fun x hx => hb x (List.mem_reverse.1 (t2.mem_iff.1 hx))) (fun x hx => ?_) fun m _ k => ?_
  · obtain ⟨R, hR, hx⟩ := List.mem_flatten.1 hx
    obtain ⟨c, hc, rfl⟩ := List.mem_map.1 hR
    obtain ⟨S, hS, h1⟩ := List.mem_filterMap.1 hx
    exact hb x (s2.mem_iff.1 (List.mem_flatten.2 ⟨S, hS, List.mem_of_getElem? h1⟩))
  · rw [cnk_turn s1]
    refine Most.eq (most_ins hr m k) ?_
    have h1 : fm m p.reverse = (fm m p).reverse := by unfold fm; rw [List.filter_reverse]
    rw [h1]
    exact (most_rev s1 m k).kn (s3.symm.fm m).rev

/-! ### The numbers of a turned tableau -/
theorem cnk_all (m : Int) : ∀ (T : List (List Int)) (k : Nat), T.length ≤ k → cnk T m k = cle m T.flatten := by
  intro T k hk
  have h1 := tots_cnk m T k
  rw [List.take_of_length_le (by simpa using hk)] at h1
  rw [← h1]
  clear h1 hk
  induction T with
  | nil => rfl
  | cons R T ih =>
    rw [List.flatten_cons, cle_append, ← ih]
    simp [tots, cle]
theorem count_cle (x : Int) : ∀ l : List Int, l.count x + cle (x - 1) l = cle x l
  | [] => rfl
  | a :: l => by
    have := count_cle x l
    rw [List.count_cons, cle_cons, cle_cons]
    by_cases h : a = x
    · subst h; rw [if_neg (show ¬ a ≤ a - 1 by omega), if_pos (Int.le_refl a)]; simp; omega
    · have hb : (a == x) = false := by simpa using h
      rw [hb]
      by_cases h2 : a ≤ x
      · rw [if_pos (show a ≤ x - 1 by omega), if_pos h2]; simp; omega
      · rw [if_neg (show ¬ a ≤ x - 1 by omega), if_neg h2]; simp; omega
theorem turn_perm {T : List (List Int)} (h : Tab T) : (turnT T).flatten.Perm T.flatten := by
  have hc : ∀ m, cle m (turnT T).flatten = cle m T.flatten := fun m => by
    rw [← cnk_all m (turnT T) ((turnT T).length + T.flatten.length) (by omega), cnk_turn h]
    have : ∀ (k : Nat) (U : List (List Int)), U.flatten.length ≤ k → minS k m U = cle m U.flatten := by
      intro k U hU
      induction U with
      | nil => rfl
      | cons R U ih =>
        rw [List.flatten_cons, List.length_append] at hU
        have h1 := cle_le m R
        have h2 := ih (by omega)
        unfold minS at h2 ⊢
        rw [List.map_cons, List.sum_cons, h2, List.flatten_cons, cle_append]
        omega
    exact this _ T (by omega)
  rw [List.perm_iff_count]
  intro x
  have h1 := count_cle x (turnT T).flatten
  have h2 := count_cle x T.flatten
  rw [hc, hc] at h1
  omega

/-! ### The way back -/
theorem bumpUp_cons : ∀ (q : Nat) (R : List Int) (T : List (List Int)) (n : Int),
    bumpUp (R :: T) n (q + 1) = (R.set (dn R (bumpUp T n q).2 (R.length - 1)) (bumpUp T n q).2 :: (bumpUp T n q).1, R.getD (dn R (bumpUp T n q).2 (R.length - 1)) 0)
  | 0, R, T, n => by simp [bumpUp]
  | q + 1, R, T, n => by
    conv => lhs; rw [bumpUp]
    have e1 : (R :: T).getD (q + 1) [] = T.getD q [] := by simp
    rw [e1, List.set_cons_succ, bumpUp_cons q]
    conv => rhs; rw [bumpUp]
theorem dn_eq {R : List Int} {n : Int} {j : Nat} (hj : j < R.length) (h1 : R.getD j 0 ≤ n) (h2 : ∀ i, j < i → i < R.length → n < R.getD i 0) : dn R n (R.length - 1) = j := by
  obtain ⟨a1, a2⟩ := dn_at (R := R) (n := n) (c := R.length - 1) (j := j) (by omega) h1
  have a3 := dn_le R n (R.length - 1)
  rcases Nat.lt_or_ge j (dn R n (R.length - 1)) with h3 | h3
  · have := h2 _ h3 (by omega); omega
  · omega
theorem takeAt_cons (R : List Int) (T : List (List Int)) (r : Nat) : takeAt (R :: T) (r + 1) = (R.set (dn R (takeAt T r).2 (R.length - 1)) (takeAt T r).2 :: (takeAt T r).1, R.getD (dn R (takeAt T r).2 (R.length - 1)) 0) := by
  have e1 : (R :: T).getD (r + 1) [] = T.getD r [] := by simp
  unfold takeAt
  rw [e1, List.set_cons_succ, bumpUp_cons]
/-- What was put in comes back out. -/
theorem takeAt_ins : ∀ {T : List (List Int)} {v : Int} (E : List (List Int)), Tab T → T.flatten.Nodup → v ∉ T.flatten →
    takeAt (tabIns T v ++ E) (tabRow T v) = (T ++ (if tabRow T v < T.length then E else [] :: E), v)
  | [], v, E, _, _, _ => by simp [tabIns, tabRow, takeAt, bumpUp]
  | R :: T, v, E, h, hn, hv => by
    obtain ⟨h0, hI, hu, hT⟩ := h
    rw [List.flatten_cons] at hn hv
    have hvR : v ∉ R := fun hm => hv (List.mem_append_left _ hm)
    rw [List.nodup_append] at hn
    rw [tabIns, tabRow]
    split
    · rename_i hp
      have hxR : R.getD (rpos R v) 0 ∈ R := by rw [List.getD_eq_getElem?_getD, List.getElem?_eq_getElem hp]; exact List.getElem_mem hp
      have hxT : R.getD (rpos R v) 0 ∉ T.flatten := fun hm => hn.2.2 _ hxR _ hm rfl
      rw [List.cons_append, takeAt_cons, takeAt_ins E hT hn.2.1 hxT]
      have hgt := rpos_ge R v hp
      have hne : R.getD (rpos R v) 0 ≠ v := fun e => hvR (e ▸ hxR)
      have hd : dn (R.set (rpos R v) v) (R.getD (rpos R v) 0) ((R.set (rpos R v) v).length - 1) = rpos R v := by
        refine dn_eq (by simpa using hp) ?_ fun i hi hil => ?_
        · rw [getD_set', if_pos ⟨rfl, hp⟩]; exact hgt
        · rw [List.length_set] at hil
          rw [getD_set', if_neg (by omega)]
          exact hI.getD hi hil
      simp only [hd]
      have hs : R.set (rpos R v) (R.getD (rpos R v) 0) = R := by
        rw [List.getD_eq_getElem?_getD, List.getElem?_eq_getElem hp]; simp
      have hg : (R.set (rpos R v) v).getD (rpos R v) 0 = v := by
        rw [getD_set']; exact if_pos (And.intro rfl hp)
      rw [List.set_set, hg, hs, List.cons_append, List.length_cons]
      have h6 : (if tabRow T (R.getD (rpos R v) 0) < T.length then E else [] :: E) = (if tabRow T (R.getD (rpos R v) 0) + 1 < T.length + 1 then E else [] :: E) := by
        by_cases h5 : tabRow T (R.getD (rpos R v) 0) < T.length
        · rw [if_pos h5, if_pos (by omega)]
        · rw [if_neg h5, if_neg (by omega)]
      rw [h6]
    · rw [if_pos (by simp)]
      simp [takeAt, bumpUp, List.getD_eq_getElem?_getD]
def padT (T : List (List Int)) (n : Nat) : List (List Int) := T ++ List.replicate (n - T.length) []
theorem insQ_len_mono {w : List Int} : ∀ {k n : Nat}, k ≤ n → n ≤ w.length → (insQ w k).length ≤ (insQ w n).length := by
  intro k n hkn hn
  induction n with
  | zero => have : k = 0 := by omega
            subst this; exact Nat.le_refl _
  | succ n ih =>
    by_cases e : k = n + 1
    · subst e; exact Nat.le_refl _
    · have h1 := ih (by omega) (by omega)
      rw [insQ, addAt]
      split
      · simpa using h1
      · simp; omega
theorem addAt_perm {Q : List (List Int)} {r : Nat} {x : Int} : (addAt Q r x).flatten.Perm (x :: Q.flatten) := by
  unfold addAt
  split
  · rename_i h
    have h1 : Q = Q.take r ++ Q.getD r [] :: Q.drop (r + 1) := by rw [List.getD_eq_getElem?_getD, List.getElem?_eq_getElem h]; simp
    rw [List.set_eq_take_append_cons_drop, if_pos h]
    conv => rhs; rw [h1]
    generalize Q.getD r [] = R
    generalize Q.take r = U
    generalize Q.drop (r + 1) = V
    simp only [List.flatten_append, List.flatten_cons, List.append_assoc, List.singleton_append]
    rw [← List.append_assoc U.flatten R, ← List.append_assoc U.flatten R]
    exact List.perm_middle
  · simp
theorem insQ_nodup (w : List Int) : ∀ k, k ≤ w.length → (insQ w k).flatten.Nodup
  | 0, _ => by simp [insQ]
  | k + 1, hk => by
    have ih := insQ_nodup w k (by omega)
    rw [insQ, addAt_perm.nodup_iff, List.nodup_cons]
    refine ⟨fun hm => ?_, ih⟩
    obtain ⟨R, hR, hx⟩ := List.mem_flatten.1 hm
    obtain ⟨r, hr, rfl⟩ := List.getElem_of_mem hR
    have := insQ_le (w := w) k (by omega) r _ (by rw [List.getD_eq_getElem?_getD, List.getElem?_eq_getElem hr]; exact hx)
    omega
/-- The row of k + 1. -/
theorem insQ_mem {w : List Int} {k n : Nat} (hk : k < n) (hn : n ≤ w.length) : ((k : Int) + 1) ∈ (insQ w n).getD (tabRow (insP (w.take k)) (w.getD k 0)) [] := by
  have h1 := insQ_fm (w := w) (m := k + 1) n (by omega) hn (tabRow (insP (w.take k)) (w.getD k 0))
  have h2 : ((k : Int) + 1) ∈ (insQ w (k + 1)).getD (tabRow (insP (w.take k)) (w.getD k 0)) [] := by
    rw [insQ, addAt_getD (insQ_row (by omega)), if_pos rfl]; simp
  rw [← h1] at h2
  exact (List.mem_filter.1 h2).1
theorem popT_ins {w : List Int} (hw : w.Nodup) : ∀ k, k ≤ w.length → popT (insQ w w.length) k (padT (insP (w.take k)) (insQ w w.length).length) = w.take k
  | 0, _ => by simp [popT]
  | k + 1, hk => by
    have ih := popT_ins hw k (by omega)
    have hrow := rowOf_eq (insQ_nodup w w.length (Nat.le_refl _)) (insQ_mem (w := w) (k := k) (n := w.length) (by omega) (Nat.le_refl _))
    have hnk : (w.take (k + 1)).Nodup := hw.sublist (List.take_sublist _ _)
    have e := take_snoc (w := w) (k := k) (by omega)
    have hnk' := hnk
    rw [e, List.nodup_append] at hnk'
    obtain ⟨t1, t2, _⟩ := insP_all hnk'.1
    have hv : w.getD k 0 ∉ (insP (w.take k)).flatten := fun hm => hnk'.2.2 _ (t2.mem_iff.1 hm) _ (by simp) rfl
    have hlk := insQ_length w k (by omega)
    have hlk1 := insQ_length w (k + 1) hk
    have hm1 := insQ_len_mono (w := w) (k := k + 1) (n := w.length) hk (Nat.le_refl _)
    have htl := tabIns_length (insP (w.take k)) (w.getD k 0)
    have hpad : padT (insP (w.take (k + 1))) (insQ w w.length).length = tabIns (insP (w.take k)) (w.getD k 0) ++ List.replicate ((insQ w w.length).length - (insP (w.take (k + 1))).length) [] := by
      rw [padT, e, insP_snoc]
    have hl2 : (insP (w.take (k + 1))).length = if tabRow (insP (w.take k)) (w.getD k 0) < (insP (w.take k)).length then (insP (w.take k)).length else (insP (w.take k)).length + 1 := by
      rw [e, insP_snoc]; exact htl.2
    have htake : takeAt (padT (insP (w.take (k + 1))) (insQ w w.length).length) (tabRow (insP (w.take k)) (w.getD k 0)) = (padT (insP (w.take k)) (insQ w w.length).length, w.getD k 0) := by
      rw [hpad, takeAt_ins _ t1 (t2.nodup_iff.2 hnk'.1) hv]
      congr 1
      rw [padT]
      congr 1
      rw [hl2]
      split
      · rfl
      · rename_i h5
        rw [if_neg h5] at hl2
        rw [← List.replicate_succ]
        congr 1
        omega
    rw [popT, hrow, htake, ih, e]
theorem pop_ins {w : List Int} (hw : w.Nodup) : popT (insQ w w.length) w.length (insP w) = w := by
  have h := popT_ins hw w.length (Nat.le_refl _)
  have hl := insQ_length w w.length (Nat.le_refl _)
  rw [List.take_length] at h hl
  rw [padT, hl, Nat.sub_self] at h
  simpa using h
end Go.Proofs.Ytdchjhhpbdekeaa
