/- Colourings of words of different numbers: equal colours ascend. A move of Knuth keeps how many places can be coloured. No program in sight. -/
import Derived.Test.YtfainpmcdfckkaaPermMath
namespace Go.Proofs.Ytfainpmcdfckkaa
open Go
set_option maxRecDepth 100000

/-- Equal colours, other than 0, ascend. -/
def AscC (a b : Int × Nat) : Prop := a.2 = b.2 → a.2 ≠ 0 → a.1 < b.1
def AscW (W : List (Int × Nat)) : Prop := W.Pairwise AscC
def wd (W : List (Int × Nat)) : List Int := W.map (·.1)
def cnt (W : List (Int × Nat)) : Nat := (W.filter fun x => decide (x.2 ≠ 0)).length
theorem cnt_append (U V : List (Int × Nat)) : cnt (U ++ V) = cnt U + cnt V := by simp [cnt]
theorem cnt_cons (x : Int × Nat) (V : List (Int × Nat)) : cnt (x :: V) = (if x.2 ≠ 0 then 1 else 0) + cnt V := by
  by_cases h : x.2 = 0 <;> simp [cnt, h] ; omega
theorem wd_append (U V : List (Int × Nat)) : wd (U ++ V) = wd U ++ wd V := by simp [wd]
/-- n places of w can be coloured with k colours. -/
def Reach (k : Nat) (w : List Int) (n : Nat) : Prop := ∃ W, wd W = w ∧ AscW W ∧ (∀ x ∈ W, x.2 ≤ k) ∧ cnt W = n

/-- Two colours exchanged. -/
def sw (a c : Nat) (x : Int × Nat) : Int × Nat := (x.1, if x.2 = a then c else if x.2 = c then a else x.2)
theorem sw_ne0 {a c : Nat} (ha : a ≠ 0) (hc : c ≠ 0) (x : Int × Nat) : (sw a c x).2 ≠ 0 ↔ x.2 ≠ 0 := by
  unfold sw; simp only; split
  · omega
  · split <;> omega
theorem wd_sw (a c : Nat) (V : List (Int × Nat)) : wd (V.map (sw a c)) = wd V := by simp [wd, sw]
theorem cnt_sw {a c : Nat} (ha : a ≠ 0) (hc : c ≠ 0) (V : List (Int × Nat)) : cnt (V.map (sw a c)) = cnt V := by
  induction V with
  | nil => rfl
  | cons x r ih =>
    rw [List.map_cons, cnt_cons, cnt_cons, ih]
    have := sw_ne0 ha hc x
    by_cases h : x.2 ≠ 0
    · rw [if_pos h, if_pos (this.2 h)]
    · rw [if_neg h, if_neg (fun hh => h (this.1 hh))]
theorem asc_sw {a c : Nat} (ha : a ≠ 0) (hc : c ≠ 0) {V : List (Int × Nat)} (h : AscW V) : AscW (V.map (sw a c)) := by
  unfold AscW at h ⊢
  rw [List.pairwise_map]
  refine h.imp ?_
  intro x y hxy h1 h2
  refine hxy ?_ ((sw_ne0 ha hc x).1 h2)
  revert h1
  unfold sw
  simp only
  repeat' split
  all_goals intro h1; omega
theorem le_sw {a c k : Nat} (ha : a ≤ k) (hc : c ≤ k) {x : Int × Nat} (h : x.2 ≤ k) : (sw a c x).2 ≤ k := by
  unfold sw; simp only; repeat' split
  all_goals omega

/-- 'a b c' behind u and ahead of v. -/
theorem asc3 {u v : List (Int × Nat)} {a b c : Int × Nat} : AscW (u ++ a :: b :: c :: v) ↔
    AscW u ∧ AscW v ∧ AscC a b ∧ AscC a c ∧ AscC b c ∧ (∀ p ∈ u, AscC p a) ∧ (∀ p ∈ u, AscC p b) ∧ (∀ p ∈ u, AscC p c) ∧ (∀ q ∈ v, AscC a q) ∧ (∀ q ∈ v, AscC b q) ∧ (∀ q ∈ v, AscC c q) ∧ (∀ p ∈ u, ∀ q ∈ v, AscC p q) := by
  unfold AscW
  simp only [List.pairwise_append, List.pairwise_cons, List.mem_cons, forall_eq_or_imp]
  constructor
  · rintro ⟨h1, ⟨⟨h2, h3, h4⟩, ⟨h5, h6⟩, h7, h8⟩, h9⟩
    exact ⟨h1, h8, h2, h3, h5, fun p hp => (h9 p hp).1, fun p hp => (h9 p hp).2.1, fun p hp => (h9 p hp).2.2.1, h4, h6, h7, fun p hp => (h9 p hp).2.2.2⟩
  · rintro ⟨h1, h8, h2, h3, h5, a1, a2, a3, h4, h6, h7, a4⟩
    exact ⟨h1, ⟨⟨h2, h3, h4⟩, ⟨h5, h6⟩, h7, h8⟩, fun p hp => ⟨a1 p hp, a2 p hp, a3 p hp, a4 p hp⟩⟩

/-- What a move makes of a colouring. -/
def Moves (k : Nat) (u v : List (Int × Nat)) (s : List (Int × Nat)) (a b c : Int) : Prop :=
  ∃ (i j l : Nat) (v' : List (Int × Nat)), wd v' = wd v ∧ AscW (u ++ (a, i) :: (b, j) :: (c, l) :: v') ∧ (∀ x ∈ v', x.2 ≤ k) ∧ i ≤ k ∧ j ≤ k ∧ l ≤ k ∧ cnt [(a, i), (b, j), (c, l)] + cnt v' = cnt s + cnt v
theorem cnt3 (a b c : Int × Nat) : cnt [a, b, c] = (if a.2 ≠ 0 then 1 else 0) + (if b.2 ≠ 0 then 1 else 0) + (if c.2 ≠ 0 then 1 else 0) := by
  rw [cnt_cons, cnt_cons, cnt_cons]; simp only [cnt, List.filter_nil, List.length_nil]; omega

/-- The way that exchanges the colours behind: x z y to z x y, and y x z to y z x. -/
theorem move1 {k : Nat} {u v : List (Int × Nat)} {x y z : Int} {i j l : Nat} (hxy : x < y) (hyz : y < z) (h : AscW (u ++ (x, i) :: (z, j) :: (y, l) :: v)) (hv : ∀ q ∈ v, q.2 ≤ k) (hi : i ≤ k) (hj : j ≤ k) (hl : l ≤ k) :
    Moves k u v [(x, i), (z, j), (y, l)] z x y := by
  rw [asc3] at h
  obtain ⟨h1, h2, h3, h4, h5, h6, h7, h8, h9, h10, h11, h12⟩ := h
  by_cases hij : i = j ∧ i ≠ 0
  · obtain ⟨rfl, hi0⟩ := hij
    by_cases hl0 : l = 0
    · subst hl0
      refine ⟨0, i, i, v, rfl, ?_, hv, by omega, hi, hi, ?_⟩
      · rw [asc3]
        refine ⟨h1, h2, ?_, ?_, ?_, ?_, ?_, ?_, ?_, ?_, ?_, h12⟩
        · intro _ e; exact absurd rfl e
        · intro _ e; exact absurd rfl e
        · intro _ _; exact hxy
        · intro p hp e1 e2; exact absurd e1 e2
        · intro p hp; exact h6 p hp
        · intro p hp e1 e2; have := h6 p hp e1 e2; simp only at this ⊢; omega
        · intro q hq e1 e2; exact absurd rfl e2
        · intro q hq; exact h9 q hq
        · intro q hq e1 e2; have := h10 q hq e1 e2; simp only at this ⊢; omega
      · rw [cnt3, cnt3]; simp only; omega
    · have hli : l ≠ i := by
        intro e; subst e
        have := h5 rfl hl0
        simp only at this; omega
      refine ⟨l, i, i, v.map (sw i l), wd_sw _ _ _, ?_, ?_, hl, hi, hi, ?_⟩
      · rw [asc3]
        refine ⟨h1, asc_sw hi0 hl0 h2, ?_, ?_, ?_, ?_, ?_, ?_, ?_, ?_, ?_, ?_⟩
        · intro e; exact absurd e hli
        · intro e; exact absurd e hli
        · intro _ _; exact hxy
        · intro p hp e1 e2; have := h8 p hp e1 e2; simp only at this ⊢; omega
        · intro p hp; exact h6 p hp
        · intro p hp e1 e2; have := h6 p hp e1 e2; simp only at this ⊢; omega
        · intro q' hq'
          obtain ⟨q, hq, rfl⟩ := List.mem_map.1 hq'
          intro e1 e2
          have hqi : q.2 = i := by
            simp only [sw] at e1
            by_cases e : q.2 = i
            · exact e
            · rw [if_neg e] at e1; split at e1 <;> omega
          have := h10 q hq hqi.symm hi0
          simpa [sw] using this
        · intro q' hq'
          obtain ⟨q, hq, rfl⟩ := List.mem_map.1 hq'
          intro e1 e2
          have hql : q.2 = l := by
            simp only [sw] at e1
            by_cases e : q.2 = i
            · rw [if_pos e] at e1; omega
            · rw [if_neg e] at e1; split at e1 <;> omega
          have := h11 q hq hql.symm hl0
          simp only [sw] at this ⊢; omega
        · intro q' hq'
          obtain ⟨q, hq, rfl⟩ := List.mem_map.1 hq'
          intro e1 e2
          have hql : q.2 = l := by
            simp only [sw] at e1
            by_cases e : q.2 = i
            · rw [if_pos e] at e1; omega
            · rw [if_neg e] at e1; split at e1 <;> omega
          have := h11 q hq hql.symm hl0
          simp only [sw] at this ⊢; omega
        · intro p hp q' hq'
          obtain ⟨q, hq, rfl⟩ := List.mem_map.1 hq'
          intro e1 e2
          by_cases e : q.2 = i
          · have e3 : p.2 = l := by simp only [sw] at e1; rw [if_pos e] at e1; exact e1
            have t1 := h8 p hp e3 e2
            have t2 := h10 q hq e.symm hi0
            simp only [sw] at t1 t2 ⊢; omega
          · by_cases e' : q.2 = l
            · have e3 : p.2 = i := by simp only [sw] at e1; rw [if_neg e, if_pos e'] at e1; exact e1
              have t1 := h6 p hp e3 e2
              have t2 := h11 q hq e'.symm hl0
              simp only [sw] at t1 t2 ⊢; omega
            · have e3 : p.2 = q.2 := by simp only [sw] at e1; rw [if_neg e, if_neg e'] at e1; exact e1
              have := h12 p hp q hq e3 e2
              simpa [sw] using this
      · intro q' hq'
        obtain ⟨q, hq, rfl⟩ := List.mem_map.1 hq'
        exact le_sw hi hl (hv q hq)
      · rw [cnt3, cnt3, cnt_sw hi0 hl0]; simp [hi0, hl0]
  · refine ⟨j, i, l, v, rfl, ?_, hv, hj, hi, hl, ?_⟩
    · rw [asc3]
      refine ⟨h1, h2, ?_, h5, h4, h7, h6, h8, h10, h9, h11, h12⟩
      intro e1 e2; simp only at e1 e2; exact absurd ⟨e1.symm, by omega⟩ hij
    · rw [cnt3, cnt3]; simp only; omega
theorem move2 {k : Nat} {u v : List (Int × Nat)} {x y z : Int} {i j l : Nat} (hxy : x < y) (hyz : y < z) (h : AscW (u ++ (y, i) :: (x, j) :: (z, l) :: v)) (hv : ∀ q ∈ v, q.2 ≤ k) (hi : i ≤ k) (hj : j ≤ k) (hl : l ≤ k) :
    Moves k u v [(y, i), (x, j), (z, l)] y z x := by
  rw [asc3] at h
  obtain ⟨h1, h2, h3, h4, h5, h6, h7, h8, h9, h10, h11, h12⟩ := h
  by_cases hij : j = l ∧ j ≠ 0
  · obtain ⟨rfl, hj0⟩ := hij
    by_cases hi0 : i = 0
    · subst hi0
      refine ⟨j, j, 0, v, rfl, ?_, hv, hj, hj, by omega, ?_⟩
      · rw [asc3]
        refine ⟨h1, h2, ?_, ?_, ?_, ?_, ?_, ?_, ?_, ?_, ?_, h12⟩
        · intro _ _; exact hyz
        · intro e1 e2; exact absurd e1 e2
        · intro e1 e2; exact absurd e1 e2
        · intro p hp e1 e2; have := h7 p hp e1 e2; simp only at this ⊢; omega
        · intro p hp; exact h8 p hp
        · intro p hp e1 e2; exact absurd e1 e2
        · intro q hq e1 e2; have := h11 q hq e1 e2; simp only at this ⊢; omega
        · intro q hq; exact h11 q hq
        · intro q hq e1 e2; exact absurd rfl e2
      · rw [cnt3, cnt3]; simp only; omega
    · have hli : i ≠ j := by
        intro e; subst e
        have := h3 rfl hi0
        simp only at this; omega
      refine ⟨i, i, j, v.map (sw j i), wd_sw _ _ _, ?_, ?_, hi, hi, hj, ?_⟩
      · have qi : ∀ q : Int × Nat, i = (sw j i q).2 → q.2 = j := by
          intro q e1
          simp only [sw] at e1
          by_cases e : q.2 = j
          · exact e
          · rw [if_neg e] at e1; split at e1 <;> omega
        have qj : ∀ q : Int × Nat, j = (sw j i q).2 → q.2 = i := by
          intro q e1
          simp only [sw] at e1
          by_cases e : q.2 = j
          · rw [if_pos e] at e1; omega
          · rw [if_neg e] at e1; split at e1 <;> omega
        rw [asc3]
        refine ⟨h1, asc_sw hj0 hi0 h2, ?_, ?_, ?_, ?_, ?_, ?_, ?_, ?_, ?_, ?_⟩
        · intro _ _; exact hyz
        · intro e; exact absurd e hli
        · intro e; exact absurd e hli
        · intro p hp; exact h6 p hp
        · intro p hp e1 e2; have := h6 p hp e1 e2; simp only at this ⊢; omega
        · intro p hp; exact h7 p hp
        · intro q' hq'
          obtain ⟨q, hq, rfl⟩ := List.mem_map.1 hq'
          intro e1 e2
          have := h11 q hq (qi q e1).symm hj0
          simp only [sw] at this ⊢; omega
        · intro q' hq'
          obtain ⟨q, hq, rfl⟩ := List.mem_map.1 hq'
          intro e1 e2
          have := h11 q hq (qi q e1).symm hj0
          simp only [sw] at this ⊢; omega
        · intro q' hq'
          obtain ⟨q, hq, rfl⟩ := List.mem_map.1 hq'
          intro e1 e2
          have := h9 q hq (qj q e1).symm hi0
          simp only [sw] at this ⊢; omega
        · intro p hp q' hq'
          obtain ⟨q, hq, rfl⟩ := List.mem_map.1 hq'
          intro e1 e2
          by_cases e : q.2 = j
          · have e3 : p.2 = i := by simp only [sw] at e1; rw [if_pos e] at e1; exact e1
            have t1 := h6 p hp e3 e2
            have t2 := h11 q hq e.symm hj0
            simp only [sw] at t1 t2 ⊢; omega
          · by_cases e' : q.2 = i
            · have e3 : p.2 = j := by simp only [sw] at e1; rw [if_neg e, if_pos e'] at e1; exact e1
              have t1 := h7 p hp e3 e2
              have t2 := h9 q hq e'.symm hi0
              simp only [sw] at t1 t2 ⊢; omega
            · have e3 : p.2 = q.2 := by simp only [sw] at e1; rw [if_neg e, if_neg e'] at e1; exact e1
              have := h12 p hp q hq e3 e2
              simpa [sw] using this
      · intro q' hq'
        obtain ⟨q, hq, rfl⟩ := List.mem_map.1 hq'
        exact le_sw hj hi (hv q hq)
      · rw [cnt3, cnt3, cnt_sw hj0 hi0]; simp [hi0, hj0]
  · refine ⟨i, l, j, v, rfl, ?_, hv, hi, hl, hj, ?_⟩
    · rw [asc3]
      refine ⟨h1, h2, h4, h3, ?_, h6, h8, h7, h9, h11, h10, h12⟩
      intro e1 e2; simp only at e1 e2; exact absurd ⟨e1.symm, by omega⟩ hij
    · rw [cnt3, cnt3]; simp only; omega
/-- The ways back: nothing is recoloured. -/
theorem move1' {k : Nat} {u v : List (Int × Nat)} {x y z : Int} {i j l : Nat} (hxy : x < y) (hyz : y < z) (h : AscW (u ++ (z, i) :: (x, j) :: (y, l) :: v)) (hv : ∀ q ∈ v, q.2 ≤ k) (hi : i ≤ k) (hj : j ≤ k) (hl : l ≤ k) :
    Moves k u v [(z, i), (x, j), (y, l)] x z y := by
  rw [asc3] at h
  obtain ⟨h1, h2, h3, h4, h5, h6, h7, h8, h9, h10, h11, h12⟩ := h
  refine ⟨j, i, l, v, rfl, ?_, hv, hj, hi, hl, by rw [cnt3, cnt3]; simp only; omega⟩
  rw [asc3]
  refine ⟨h1, h2, ?_, h5, h4, h7, h6, h8, h10, h9, h11, h12⟩
  intro e1 e2; simp only at e1 e2 ⊢; omega
theorem move2' {k : Nat} {u v : List (Int × Nat)} {x y z : Int} {i j l : Nat} (hxy : x < y) (hyz : y < z) (h : AscW (u ++ (y, i) :: (z, j) :: (x, l) :: v)) (hv : ∀ q ∈ v, q.2 ≤ k) (hi : i ≤ k) (hj : j ≤ k) (hl : l ≤ k) :
    Moves k u v [(y, i), (z, j), (x, l)] y x z := by
  rw [asc3] at h
  obtain ⟨h1, h2, h3, h4, h5, h6, h7, h8, h9, h10, h11, h12⟩ := h
  refine ⟨i, l, j, v, rfl, ?_, hv, hi, hl, hj, by rw [cnt3, cnt3]; simp only; omega⟩
  rw [asc3]
  refine ⟨h1, h2, h4, h3, ?_, h6, h8, h7, h9, h11, h10, h12⟩
  intro e1 e2; simp only at e1 e2 ⊢; omega

/-! ### Moves of words -/
inductive Kn : List Int → List Int → Prop
  | a (u v : List Int) {x y z : Int} : x < y → y < z → Kn (u ++ x :: z :: y :: v) (u ++ z :: x :: y :: v)
  | a' (u v : List Int) {x y z : Int} : x < y → y < z → Kn (u ++ z :: x :: y :: v) (u ++ x :: z :: y :: v)
  | b (u v : List Int) {x y z : Int} : x < y → y < z → Kn (u ++ y :: x :: z :: v) (u ++ y :: z :: x :: v)
  | b' (u v : List Int) {x y z : Int} : x < y → y < z → Kn (u ++ y :: z :: x :: v) (u ++ y :: x :: z :: v)
  | refl (w : List Int) : Kn w w
  | trans {a b c : List Int} : Kn a b → Kn b c → Kn a c
theorem wd3 {W : List (Int × Nat)} {u v : List Int} {a b c : Int} (h : wd W = u ++ a :: b :: c :: v) : ∃ U V i j l, W = U ++ (a, i) :: (b, j) :: (c, l) :: V ∧ wd U = u ∧ wd V = v := by
  unfold wd at h
  obtain ⟨U, R, rfl, h1, h2⟩ := List.map_eq_append_iff.1 h
  obtain ⟨p, R1, rfl, h3, h4⟩ := List.map_eq_cons_iff.1 h2
  obtain ⟨q, R2, rfl, h5, h6⟩ := List.map_eq_cons_iff.1 h4
  obtain ⟨r, R3, rfl, h7, h8⟩ := List.map_eq_cons_iff.1 h6
  exact ⟨U, R3, p.2, q.2, r.2, by rw [← h3, ← h5, ← h7], h1, h8⟩
theorem reach_move {k n : Nat} {u v : List Int} {a b c a' b' c' : Int}
    (hm : ∀ (U V : List (Int × Nat)) (i j l : Nat), AscW (U ++ (a, i) :: (b, j) :: (c, l) :: V) → (∀ q ∈ V, q.2 ≤ k) → i ≤ k → j ≤ k → l ≤ k → Moves k U V [(a, i), (b, j), (c, l)] a' b' c')
    (h : Reach k (u ++ a :: b :: c :: v) n) : Reach k (u ++ a' :: b' :: c' :: v) n := by
  obtain ⟨W, hw, hA, hk, hc⟩ := h
  obtain ⟨U, V, i, j, l, rfl, rfl, rfl⟩ := wd3 hw
  obtain ⟨i', j', l', V', e1, e2, e3, e4, e5, e6, e7⟩ := hm U V i j l hA (fun q hq => hk q (by simp [hq])) (hk (a, i) (by simp)) (hk (b, j) (by simp)) (hk (c, l) (by simp))
  refine ⟨U ++ (a', i') :: (b', j') :: (c', l') :: V', ?_, e2, ?_, ?_⟩
  · rw [wd_append]; simp only [wd, List.map_cons] at e1 ⊢; rw [e1]
  · intro x hx
    rcases List.mem_append.1 hx with hx | hx
    · exact hk x (by simp [hx])
    · simp only [List.mem_cons] at hx
      rcases hx with rfl | rfl | rfl | hx
      · exact e4
      · exact e5
      · exact e6
      · exact e3 x hx
  · rw [← hc, cnt_append, cnt_append]
    have h1 : ∀ p q r : Int × Nat, ∀ T, cnt (p :: q :: r :: T) = cnt [p, q, r] + cnt T := fun p q r T => by rw [show p :: q :: r :: T = [p, q, r] ++ T from rfl, cnt_append]
    rw [h1 (a', i'), h1 (a, i), e7]
theorem Kn.reach {w w' : List Int} (h : Kn w w') {k n : Nat} (hr : Reach k w n) : Reach k w' n := by
  induction h generalizing n with
  | a u v h1 h2 => exact reach_move (fun U V i j l h hv hi hj hl => move1 h1 h2 h hv hi hj hl) hr
  | a' u v h1 h2 => exact reach_move (fun U V i j l h hv hi hj hl => move1' h1 h2 h hv hi hj hl) hr
  | b u v h1 h2 => exact reach_move (fun U V i j l h hv hi hj hl => move2 h1 h2 h hv hi hj hl) hr
  | b' u v h1 h2 => exact reach_move (fun U V i j l h hv hi hj hl => move2' h1 h2 h hv hi hj hl) hr
  | refl w => exact hr
  | trans _ _ ih1 ih2 => exact ih2 (ih1 hr)
theorem Kn.symm {w w' : List Int} (h : Kn w w') : Kn w' w := by
  induction h with
  | a u v h1 h2 => exact .a' u v h1 h2
  | a' u v h1 h2 => exact .a u v h1 h2
  | b u v h1 h2 => exact .b' u v h1 h2
  | b' u v h1 h2 => exact .b u v h1 h2
  | refl w => exact .refl w
  | trans _ _ ih1 ih2 => exact .trans ih2 ih1
theorem Kn.app {w w' : List Int} (h : Kn w w') (s t : List Int) : Kn (s ++ w ++ t) (s ++ w' ++ t) := by
  induction h with
  | a u v h1 h2 => simpa using Kn.a (s ++ u) (v ++ t) h1 h2
  | a' u v h1 h2 => simpa using Kn.a' (s ++ u) (v ++ t) h1 h2
  | b u v h1 h2 => simpa using Kn.b (s ++ u) (v ++ t) h1 h2
  | b' u v h1 h2 => simpa using Kn.b' (s ++ u) (v ++ t) h1 h2
  | refl w => exact .refl _
  | trans _ _ ih1 ih2 => exact .trans ih1 ih2
theorem Kn.rev {w w' : List Int} (h : Kn w w') : Kn w.reverse w'.reverse := by
  induction h with
  | a u v h1 h2 => simpa using Kn.b' v.reverse u.reverse h1 h2
  | a' u v h1 h2 => simpa using Kn.b v.reverse u.reverse h1 h2
  | b u v h1 h2 => simpa using Kn.a' v.reverse u.reverse h1 h2
  | b' u v h1 h2 => simpa using Kn.a v.reverse u.reverse h1 h2
  | refl w => exact .refl _
  | trans _ _ ih1 ih2 => exact .trans ih1 ih2
end Go.Proofs.Ytfainpmcdfckkaa
