/- InsertPerm: the program's text. -/
import Derived.Test.YtmhgjfahgemblaaCodeIi
import Derived.Test.YtmhgjfahgemblaaInsV
import Derived.Test.YtmhgjfahgemblaaPair
import Derived.Test.YtmhgjfahgemblaaFuI
import Derived.Test.YtmhgjfahgemblaaPermMath
namespace Go.Proofs.Ytmhgjfahgemblaa
open Go Go.RowKit
set_option maxRecDepth 100000

theorem rpos_find : ∀ {R : List Int} {x : Int}, x ∉ R → rpos R x = R.findIdx (fun y => decide (y > x))
  | [], x, _ => rfl
  | a :: R, x, h => by
    simp only [List.mem_cons, not_or] at h
    rw [rpos, List.findIdx_cons, rpos_find h.2]
    by_cases h1 : a < x
    · rw [if_pos h1, decide_eq_false (by omega)]; rfl
    · rw [if_neg h1, decide_eq_true (by omega)]; rfl
theorem idxF_rpos {R : List Int} {x : Int} (h : x ∉ R) : idxF (fun y => decide (y > x)) R = if rpos R x < R.length then (rpos R x : Int) else -1 := by
  rw [idxF, rpos_find h]
theorem flat_set {T : List (List Int)} {r c : Nat} {x : Int} (hr : r < T.length) (hc : c < (T.getD r []).length) : ((T.getD r []).getD c 0 :: (T.set r ((T.getD r []).set c x)).flatten).Perm (x :: T.flatten) := by
  have h1 : T = T.take r ++ T.getD r [] :: T.drop (r + 1) := by rw [getD_SS hr]; simp
  have h2 : T.set r ((T.getD r []).set c x) = T.take r ++ (T.getD r []).set c x :: T.drop (r + 1) := by rw [List.set_eq_take_append_cons_drop, if_pos hr]
  rw [h2]
  conv => rhs; rw [h1]
  generalize hR : T.getD r [] = R at *
  have h3 : R = R.take c ++ R.getD c 0 :: R.drop (c + 1) := by rw [getD_lt hc]; simp
  have h4 : R.set c x = R.take c ++ x :: R.drop (c + 1) := by rw [List.set_eq_take_append_cons_drop, if_pos hc]
  rw [h4]
  conv => rhs; rw [h3]
  generalize R.getD c 0 = m
  generalize R.take c = A
  generalize R.drop (c + 1) = D
  generalize T.take r = U
  generalize T.drop (r + 1) = V
  simp only [List.flatten_append, List.flatten_cons, List.append_assoc, List.cons_append]
  rw [← List.append_assoc U.flatten A, ← List.append_assoc U.flatten A]
  refine (List.Perm.cons m List.perm_middle).trans ?_
  refine (List.Perm.swap x m _).trans ?_
  exact List.Perm.cons x List.perm_middle.symm
theorem c_InsertFn {w0 : World} {v : Addr} {x : Int} (hv : w0.cell? v = some (vI x)) (y : Int) : FnB w0 (.func (.func F.impl_InsertPermL1) #[] #[.pointer (some v)]) [vI y] (decide (y > x)) := by
  intro w hb
  refine ⟨F.impl_InsertPermL1, #[], #[.pointer (some v)], rfl, by kernel_rfl, ?_⟩
  refine impl_InsertPermL1.calls y v ?_
  rw [impl_InsertPermL1.E_s]
  exact load_int (cell_grow hv hb) ⟨rfl, Below.refl _ _⟩
/-- What stands between two numbers of the list: the state of the inner loop. -/
structure InnS (w0 : World) (B : Nat) (b : Sl) (rsb : List Sl) (Q : List (List Int)) (L : List Int) (k : Nat) (P : List (List Int)) (rw_ : Nat) (a : Sl) (rsa : List Sl) (T : List (List Int)) (v : Addr) (x : Int) (w : World) : Prop where
  below : Below B w0 w
  hB : B ≤ w.heap.size
  oa : OwnRows w B a rsa T
  ob : OwnRows w B b rsb Q
  ab : ∀ g, foot a rsa g → ¬ foot b rsb g
  ov : OwnI w B (vsl v) [x]
  va : ∀ g, foot a rsa g → v.block ≠ g
  vb : ∀ g, foot b rsb g → v.block ≠ g
  len : T.length = P.length
  ins : T.take rw_ ++ tabIns (T.drop rw_) x = insP (L.take (k + 1))
  row : rw_ + tabRow (T.drop rw_) x = tabRow P (L.getD k 0)
  perm : (x :: T.flatten).Perm (L.take (k + 1))
theorem InnS.fresh {w0 B b rsb Q L k P r a rsa T v x w} (h : InnS w0 B b rsb Q L k P r a rsa T v x w) (hn : L.Nodup) {i : Nat} (hi : i < T.length) : x ∉ T.getD i [] := by
  have h1 : (x :: T.flatten).Nodup := h.perm.nodup_iff.2 (hn.sublist (List.take_sublist _ _))
  intro hm
  exact (List.nodup_cons.1 h1).1 (List.mem_flatten.2 ⟨T.getD i [], by rw [getD_SS hi]; exact List.getElem_mem hi, hm⟩)
theorem InnS.rowLen {w0 B b rsb Q L k P r a rsa T v x w} (h : InnS w0 B b rsb Q L k P r a rsa T v x w) {i : Nat} (hi : i < T.length) : (T.getD i []).length ≤ L.length := by
  have h1 := h.perm.length_eq
  have h2 := flat_tab (T := T) (R := T.getD i []) (by rw [getD_SS hi]; exact List.getElem_mem hi)
  rw [List.length_cons, List.length_take] at h1
  omega
theorem insQ_rows (L : List Int) : ∀ m, (∀ M ∈ insQ L m, M.length ≤ m) ∧ (insQ L m).length ≤ m
  | 0 => by simp [insQ]
  | m + 1 => by
    have ih := insQ_rows L m
    rw [insQ, addAt]
    split
    · rename_i hlt
      refine ⟨fun M hM => ?_, by simp; omega⟩
      rcases List.mem_or_eq_of_mem_set hM with hM | rfl
      · have := ih.1 M hM; omega
      · have := ih.1 _ (show (insQ L m).getD (tabRow (insP (L.take m)) (L.getD m 0)) [] ∈ insQ L m by rw [getD_SS hlt]; exact List.getElem_mem hlt)
        simp at this ⊢; omega
    · refine ⟨fun M hM => ?_, by simp; omega⟩
      rcases List.mem_append.1 hM with hM | hM
      · have := ih.1 M hM; omega
      · simp at hM; subst hM; simp
/-- The state of the outer loop. -/
def OutS (w0 : World) (B : Nat) (L : List Int) (a b : Sl) (k : Int) (w : World) : Prop :=
  0 ≤ k ∧ k ≤ L.length ∧ Below B w0 w ∧ B ≤ w.heap.size ∧ ∃ rsa rsb, OwnRows w B a rsa (insP (L.take k.toNat)) ∧ OwnRows w B b rsb (insQ L k.toNat) ∧ (∀ g, foot a rsa g → ¬ foot b rsb g)
set_option maxHeartbeats 4000000 in
/-- The last step of a number: both rows grow, whatever the order. -/
theorem both_grow {w0 w : World} {B : Nat} {L : List Int} {a b : Sl} {rsa rsb : List Sl} {T Q : List (List Int)} {k r : Int} {v : Addr} {x : Int} (hk0 : 0 ≤ k) (hkL : k < L.length) (hL : L.length < 2^30) (hb : Below B w0 w) (hB : B ≤ w.heap.size)
    (oa : OwnRows w B a rsa T) (ob : OwnRows w B b rsb Q) (ab : ∀ g, foot a rsa g → ¬ foot b rsb g) (ov : OwnI w B (vsl v) [x]) (va : ∀ g, foot a rsa g → v.block ≠ g) (vb : ∀ g, foot b rsb g → v.block ≠ g)
    (hr0 : 0 ≤ r) (hra : r < T.length) (hrb : r < Q.length) (hTl : (T.getD r.toNat []).length ≤ L.length) (hQl : (Q.getD r.toNat []).length ≤ L.length)
    (eP : T.set r.toNat (T.getD r.toNat [] ++ [x]) = insP (L.take (k + 1).toNat)) (eQ : Q.set r.toNat (Q.getD r.toNat [] ++ [k + 1]) = insQ L (k + 1).toNat) {p : Sl} {n : Int} {Qk : Exit → Env → World → Prop} {μ0 : Nat} (hμ : (L.length - (k + 1)).toNat < μ0) :
    impl_InsertPerm.J15 std a b k v r p n k w (fun e2 w2 => ∃ a_n b_n k_n, e2 = impl_InsertPerm.emb5 a_n b_n p n k_n ∧ OutS w0 B L a_n b_n k_n w2 ∧ (L.length - k_n).toNat < μ0) Qk := by
  obtain ⟨ta, hta, hoa⟩ := oa.get (i := r.toNat) (by omega)
  obtain ⟨tb, htb, hob⟩ := ob.get (i := r.toNat) (by omega)
  have hma := List.mem_of_getElem? hta
  have hmb := List.mem_of_getElem? htb
  have hapt : Apt ta tb := fun g h1 h2 => ab g (.inr ⟨ta, hma, h1⟩) (.inr ⟨tb, hmb, h2⟩)
  rw [impl_InsertPerm.J15_s, w64_succ hk0 (by omega)]
  refine drew_intro fun w1 hd1 => ?_
  have hh := hd1.heap'
  have hb1 : Below B w0 w1 := hb.trans (hd1.below _)
  have hB1 : B ≤ w1.heap.size := by rw [hh]; exact hB
  replace oa := oa.heap hh
  replace ob := ob.heap hh
  replace ov := Own.heap ov hh
  replace hoa := Own.heap hoa hh
  replace hob := Own.heap hob hh
  refine oa.placeT hr0 (by omega) hta fun aa haa hca => ?_
  refine ob.placeT hr0 (by omega) htb fun ad had hcb => ?_
  have hcv := vsl_cell ov
  have na1 : ta.blk ≠ some aa.block := fun e => (oa.out.apt hoa (by decide)) _ haa e
  have na2 : tb.blk ≠ some aa.block := fun e => (oa.out.apt hob (by decide)) _ haa e
  have nb1 : ta.blk ≠ some ad.block := fun e => (ob.out.apt hoa (by decide)) _ had e
  have nb2 : tb.blk ≠ some ad.block := fun e => (ob.out.apt hob (by decide)) _ had e
  have nv1 : ta.blk ≠ some v.block := fun e => va _ (.inr ⟨ta, hma, e⟩) rfl
  have nv2 : tb.blk ≠ some v.block := fun e => vb _ (.inr ⟨tb, hmb, e⟩) rfl
  have h0 : JS w1 B ta tb (T.getD r.toNat []) (Q.getD r.toNat []) x (k + 1) w1 none none none none := JS.start hB1 hoa hob hapt (by omega) (by omega)
  have fin : ∀ (w' : World) (pa pb : Option Sl) (ta' tb' : Sl), JS w1 B ta tb (T.getD r.toNat []) (Q.getD r.toNat []) x (k + 1) w' pa (some ta') pb (some tb') →
      idxK 1 a r fun (a17 : Addr) => storeC a17 (Sl.v ta') w' fun w2 => idxK 1 b r fun (a18 : Addr) => storeC a18 (Sl.v tb') w2 fun w3 => ∃ a_n b_n k_n, impl_InsertPerm.emb5 a b p n (k + 1) = impl_InsertPerm.emb5 a_n b_n p n k_n ∧ OutS w0 B L a_n b_n k_n w3 ∧ (L.length - k_n).toNat < μ0 := by
    intro w' pa pb ta' tb' hj
    obtain ⟨hta', hna⟩ := hj.a1 ta' rfl
    obtain ⟨htb', hnb⟩ := hj.b1 tb' rfl
    refine oa.storeK hr0 (by omega) hta hj.keeps (fun g h1 h2 => ?_) hta' hna fun w2 oa2 hg2 st2 => ?_
    · rcases h2 with h2 | h2
      · exact h2
      · exact absurd (.inr ⟨tb, hmb, h2⟩) (ab g h1)
    rw [eP] at oa2
    have ok2 : ∀ t M, OwnI w' B t M → OwnI w2 B t M := fun t M ht => ht.kept hg2 fun g h1 h2 => (oa.out.keeps hj.keeps (fun g' h3 h4 => by
      rcases h4 with h4 | h4
      · exact (oa.out.apt hoa (by decide)) g' h3 h4
      · exact (oa.out.apt hob (by decide)) g' h3 h4)).apt ht (by decide) g h2 h1
    refine ob.storeK hr0 (by omega) htb (S := fun g => (ta.blk = some g ∨ tb.blk = some g) ∨ foot a rsa g) st2.keeps (fun g h1 h2 => ?_) (ok2 _ _ htb') hnb fun w3 ob3 hg3 st3 => ?_
    · rcases h2 with (h2 | h2) | h2
      · exact absurd h1 (ab g (.inr ⟨ta, hma, h2⟩))
      · exact h2
      · exact absurd h1 (ab g h2)
    rw [eQ] at ob3
    refine ⟨a, b, k + 1, rfl, ⟨by omega, by omega, ?_, ?_, _, _, oa2.keeps (keeps_grown hg3) (fun g h1 h2 => ab g (.inl h1) (.inl h2)) (fun t ht g h1 h2 => ?_), ob3, fun g h1 h2 => ?_⟩, hμ⟩
    · refine hb1.trans (st3.keeps.below (fun g hg => ?_) hB1)
      rcases hg with ((hg | hg) | hg) | hg
      · exact (oa.lt hma hg).1
      · exact (ob.lt hmb hg).1
      · exact (oa.footLt hg).1
      · exact (ob.footLt hg).1
    · exact Nat.le_trans hB1 st3.keeps.size
    · obtain ⟨M, _, hM⟩ := oa2.own ht
      exact (ob.out.keeps st2.keeps (fun g' h3 h4 => by
        rcases h4 with (h4 | h4) | h4
        · exact (ob.out.apt hoa (by decide)) g' h3 h4
        · exact (ob.out.apt hob (by decide)) g' h3 h4
        · exact ab g' h4 (.inl h3))).apt hM (by decide) g h2 h1
    · rcases h1 with h1 | ⟨t, ht, h1⟩
      · rcases h2 with h2 | ⟨u, hu, h2⟩
        · exact ab g (.inl h1) (.inl h2)
        · rcases List.mem_or_eq_of_mem_set hu with hu | rfl
          · exact ab g (.inl h1) (.inr ⟨u, hu, h2⟩)
          · rcases hnb g h2 with h3 | h3
            · exact ab g (.inl h1) (.inr ⟨tb, hmb, h3⟩)
            · have := (oa.out.lt g h1).2; omega
      · rcases List.mem_or_eq_of_mem_set ht with ht | rfl
        · rcases h2 with h2 | ⟨u, hu, h2⟩
          · exact ab g (.inr ⟨t, ht, h1⟩) (.inl h2)
          · rcases List.mem_or_eq_of_mem_set hu with hu | rfl
            · exact ab g (.inr ⟨t, ht, h1⟩) (.inr ⟨u, hu, h2⟩)
            · rcases hnb g h2 with h3 | h3
              · exact ab g (.inr ⟨t, ht, h1⟩) (.inr ⟨tb, hmb, h3⟩)
              · have := (oa.lt ht h1).2; omega
        · rcases h2 with h2 | ⟨u, hu, h2⟩
          · rcases hna g h1 with h3 | h3
            · exact ab g (.inr ⟨ta, hma, h3⟩) (.inl h2)
            · have := (ob.out.lt g h2).2; omega
          · rcases List.mem_or_eq_of_mem_set hu with hu | rfl
            · rcases hna g h1 with h3 | h3
              · exact ab g (.inr ⟨ta, hma, h3⟩) (.inr ⟨u, hu, h2⟩)
              · have := (ob.lt hu h2).2; omega
            · exact hj.ap _ _ rfl rfl g h1 h2
  clear eP eQ hTl hQl
  have la : ∀ (w' : World) (pa da pb db : Option Sl) (K : Sl → Prop), JS w1 B ta tb (T.getD r.toNat []) (Q.getD r.toNat []) x (k + 1) w' pa da pb db → K ta → load1 .sl aa w' K := fun w' pa da pb db K hj hk => load_sl (hj.cell hca na1 na2) hk
  have lb : ∀ (w' : World) (pa da pb db : Option Sl) (K : Sl → Prop), JS w1 B ta tb (T.getD r.toNat []) (Q.getD r.toNat []) x (k + 1) w' pa da pb db → K tb → load1 .sl ad w' K := fun w' pa da pb db K hj hk => load_sl (hj.cell hcb nb1 nb2) hk
  have lv : ∀ (w' : World) (pa da pb db : Option Sl) (K : Int → Prop), JS w1 B ta tb (T.getD r.toNat []) (Q.getD r.toNat []) x (k + 1) w' pa da pb db → K x → load1 (.int .i64) v w' K := fun w' pa da pb db K hj hk => load_int (hj.cell hcv nv1 nv2) hk
  repeat' first
    | (with_reducible exact fin _ _ _ _ _ (by assumption))
    | (with_reducible apply And.intro)
    | (with_reducible refine la _ _ _ _ _ _ (by assumption) ?_)
    | (with_reducible refine lb _ _ _ _ _ _ (by assumption) ?_)
    | (with_reducible refine lv _ _ _ _ _ _ (by assumption) ?_)
    | (with_reducible refine JS.litA (by assumption) ?_; intro _ _ _)
    | (with_reducible refine JS.litB (by assumption) ?_; intro _ _ _)
    | (with_reducible refine JS.appA (by assumption) ?_; intro _ _ _)
    | (with_reducible refine JS.appB (by assumption) ?_; intro _ _ _)
/-- Behind the search of a row: the new rows where they are wanted, and the last step. -/
theorem ins_end {w0 w : World} {B : Nat} {L : List Int} {a b : Sl} {rsa rsb : List Sl} {T : List (List Int)} {k r : Int} {v : Addr} {x : Int} (hk0 : 0 ≤ k) (hkL : k < L.length) (hL : L.length < 2^30)
    (h : InnS w0 B b rsb (insQ L k.toNat) L k.toNat (insP (L.take k.toNat)) r.toNat a rsa T v x w) (hr0 : 0 ≤ r) (hr : r ≤ T.length) (hrow : r < T.length → ¬ rpos (T.getD r.toNat []) x < (T.getD r.toNat []).length)
    {p : Sl} {n : Int} {Qk : Exit → Env → World → Prop} {μ0 : Nat} (hμ : (L.length - (k + 1)).toNat < μ0) :
    (impl_InsertPerm.q16 std (fun e2 w2 => ∃ a_n b_n k_n, e2 = impl_InsertPerm.emb5 a_n b_n p n k_n ∧ OutS w0 B L a_n b_n k_n w2 ∧ (L.length - k_n).toNat < μ0) Qk) (.exit 2) (impl_InsertPerm.x2 a b k v r p n k) w := by
  have hQl := insQ_length L k.toNat (by omega)
  have hTP := h.len
  have hQr := insQ_rows L k.toNat
  have hins := h.ins
  have hrow' := h.row
  have eQ : insQ L (k + 1).toNat = addAt (insQ L k.toNat) (tabRow (insP (L.take k.toNat)) (L.getD k.toNat 0)) (k + 1) := by
    rw [show (k + 1).toNat = k.toNat + 1 by omega, insQ]; congr 1; omega
  have ek : (k + 1).toNat = k.toNat + 1 := by omega
  rw [impl_InsertPerm.A8_2_s, h.oa.n]
  refine bif_intro (fun h4 => ?_) (fun h4 => ?_)
  · have h4' : r.toNat = T.length := by have := eq_of_beq h4; omega
    rw [h4', List.take_length, List.drop_length, tabIns] at hins
    rw [h4', List.drop_length, tabRow] at hrow'
    refine h.oa.pushF (Below.refl _ _) h.hB (r := Sl.nil) (L := []) (Own.nil _ _ _) (fun g hg => by simp [Sl.blk, Sl.nil] at hg) (by omega) ?_
    intro a' w1 oa1 st1
    have ob1 : OwnRows w1 B b rsb (insQ L k.toNat) := h.ob.keepsF st1.keeps fun g h1 h2 => h.ab g h2 h1
    have ab1 : ∀ g, foot a' (rsa ++ [Sl.nil]) g → ¬ foot b rsb g := st1.apart (fun g hg => (h.ob.footLt hg).2) h.ab
    have va1 : ∀ g, foot a' (rsa ++ [Sl.nil]) g → ¬ v.block = g := st1.apart (F := fun g => v.block = g) (fun g hg => by subst hg; exact (h.ov.lt _ (vsl_blk v)).2) fun g h1 h2 => h.va g h1 h2
    have ov1 : OwnI w1 B (vsl v) [x] := Own.keeps h.ov st1.keeps fun g h1 h2 => by rw [vsl_blk] at h1; simp at h1; exact h.va g h2 h1
    have hB1 : B ≤ w1.heap.size := Nat.le_trans h.hB st1.keeps.size
    refine ob1.pushF (Below.refl _ _) hB1 (r := Sl.nil) (L := []) (Own.nil _ _ _) (fun g hg => by simp [Sl.blk, Sl.nil] at hg) (by omega) ?_
    intro b' w2 ob2 st2
    refine both_grow (T := T ++ [[]]) (Q := insQ L k.toNat ++ [[]]) (rsa := rsa ++ [Sl.nil]) (rsb := rsb ++ [Sl.nil]) hk0 hkL hL (h.below.trans ((st1.below (fun g hg => (h.oa.footLt hg).1) h.hB).trans (st2.below (fun g hg => (ob1.footLt hg).1) hB1))) (Nat.le_trans hB1 st2.keeps.size)
      (oa1.keepsF st2.keeps fun g h1 h2 => ab1 g h1 h2) ob2 (fun g h1 h2 => st2.apart (F := foot a' (rsa ++ [Sl.nil])) (fun g hg => (oa1.footLt hg).2) (fun g h3 h4 => ab1 g h4 h3) g h2 h1)
      (Own.keeps ov1 st2.keeps fun g h1 h2 => by rw [vsl_blk] at h1; simp at h1; exact h.vb g h2 h1) va1 (fun g h1 h2 => st2.apart (F := fun g => v.block = g) (fun g hg => by subst hg; exact (ov1.lt _ (vsl_blk v)).2) (fun g h3 h4 => h.vb g h3 h4) g h1 h2)
      hr0 (by rw [List.length_append, List.length_singleton]; omega) (by rw [List.length_append, List.length_singleton]; omega) ?_ ?_ ?_ ?_ hμ
    · rw [h4']; simp
    · rw [show r.toNat = (insQ L k.toNat).length by omega]; simp
    · rw [ek, ← hins, h4']; simp
    · rw [eQ, addAt, if_neg (by omega), show r.toNat = (insQ L k.toNat).length by omega]; simp
  · have h4' : r.toNat < T.length := by have := ne_of_beq_false h4; omega
    obtain ⟨k1, k2⟩ := tabIns_last h4' (hrow (by omega))
    rw [k1] at hins
    rw [k2] at hrow'
    have hq : r.toNat < (insQ L k.toNat).length := by omega
    refine both_grow hk0 hkL hL h.below h.hB h.oa h.ob h.ab h.ov h.va h.vb hr0 (by omega) (by omega) (h.rowLen h4') ?_ (by rw [ek]; exact hins) ?_ hμ
    · have := hQr.1 _ (show (insQ L k.toNat).getD r.toNat [] ∈ insQ L k.toNat by rw [getD_SS hq]; exact List.getElem_mem hq)
      omega
    · rw [eQ, addAt, if_pos (by omega), show tabRow (insP (L.take k.toNat)) (L.getD k.toNat 0) = r.toNat by omega]
/-- The number at a place changes with the variable, whatever the order. -/
theorem ins_swap {w : World} {B : Nat} {L : List Int} {b : Sl} {rsb : List Sl} {Q : List (List Int)} {kN : Nat} {P : List (List Int)} {w0 : World} {a : Sl} {rsa : List Sl} {T : List (List Int)} {v : Addr} {x r : Int} (h : InnS w0 B b rsb Q L kN P r.toNat a rsa T v x w)
    (hr0 : 0 ≤ r) (hr : r < T.length) {ta : Sl} (hta : rsa[r.toNat]? = some ta) (hp : rpos (T.getD r.toNat []) x < (T.getD r.toNat []).length) {K : World → Prop}
    (hK : ∀ w', InnS w0 B b rsb Q L kN P (r + 1).toNat a rsa (T.set r.toNat ((T.getD r.toNat []).set (rpos (T.getD r.toNat []) x) x)) v ((T.getD r.toNat []).getD (rpos (T.getD r.toNat []) x) 0) w' → K w') :
    idxK 1 ta (rpos (T.getD r.toNat []) x : Int) fun a29 => storeC a29 (vI x) w fun w1 => storeC v (vI ((T.getD r.toNat []).getD (rpos (T.getD r.toNat []) x) 0)) w1 K := by
  have hr' : r.toNat < T.length := by omega
  have hm := List.mem_of_getElem? hta
  have hot := h.oa.at_ r.toNat ta _ hta (by rw [List.getElem?_eq_getElem hr', ← getD_SS hr'])
  refine Own.put hot (by omega) (by rw [List.length_map]; omega) ?_
  intro w1 h1 hg1 _
  have k1 := keeps_grown hg1
  rw [Int.toNat_natCast] at h1
  have h1' : OwnI w1 B ta ((T.getD r.toNat []).set (rpos (T.getD r.toNat []) x) x) := by simp only [OwnI, List.map_set]; exact h1
  have oa1 := h.oa.inside hta h1' hg1
  have ob1 : OwnRows w1 B b rsb Q := h.ob.keepsF k1 fun g h2 h3 => h.ab g (.inr ⟨ta, hm, h3⟩) h2
  have ov1 : OwnI w1 B (vsl v) [x] := Own.keeps h.ov k1 fun g h2 h3 => by rw [vsl_blk] at h2; simp at h2; exact h.va g (.inr ⟨ta, hm, h3⟩) h2
  refine vsl_store ov1 (fun w2 ov2 hg2 => hK w2 ?_)
  have k2 := keeps_grown hg2
  have hb1 : Below B w w1 := k1.below (fun g e => (h.oa.lt hm e).1) h.hB
  obtain ⟨s1, s2⟩ := tabIns_step hr' hp
  have hB1 : B ≤ w1.heap.size := Nat.le_trans h.hB k1.size
  refine ⟨h.below.trans (hb1.trans (k2.below (fun g e => by simp at e; subst e; exact (h.ov.lt _ (vsl_blk v)).1) hB1)), Nat.le_trans hB1 k2.size, ?_, ?_, h.ab, ov2, h.va, h.vb, by rw [List.length_set]; exact h.len, ?_, ?_, (flat_set hr' hp).trans h.perm⟩
  · exact oa1.keepsF k2 fun g h2 h3 => by simp at h3; exact h.va g h2 h3
  · exact ob1.keepsF k2 fun g h2 h3 => by simp at h3; exact h.vb g h2 h3
  · rw [show (r + 1).toNat = r.toNat + 1 by omega, ← s1]; exact h.ins
  · rw [show (r + 1).toNat = r.toNat + 1 by omega]; have := h.row; omega
set_option maxHeartbeats 1000000 in
open Classical in
theorem c_implInsertPerm {w : World} {p : Sl} {L : List Int} (hp : RowI w p L) (hL : L.length < 2^38) :
    Calls PP F.impl_InsertPerm #[p.v] w fun e w' => ∃ (s t : Sl) (rs rt : List Sl), e = .returned (.tuple #[s.v, t.v, .bool (InsertPermV2 L)]) ∧ OwnRows w' w.heap.size s rs (InsertPermV L) ∧ OwnRows w' w.heap.size t rt (InsertPermV1 L) ∧ (∀ g, foot s rs g → ¬ foot t rt g) ∧ Below w.heap.size w w' := by
  have hpn : p.n = L.length := by have := hp.n; simpa using this
  refine impl_InsertPerm.calls p ?_
  rw [impl_InsertPerm.E_s]
  refine (c_implIsPerm hp hL).mono ?_
  rintro e w1 ⟨rfl, hb1⟩
  refine ⟨_, rfl, ?_⟩
  refine bif_intro (fun h => ?_) (fun h => ?_)
  · have hn : ¬ IsP L := fun hh => by simp [hh] at h
    refine ⟨Sl.nil, Sl.nil, [], [], ?_⟩
    rw [InsertPermV, InsertPermV1, InsertPermV2, if_neg hn, if_neg hn, decide_eq_false hn]
    exact ⟨rfl, OwnRows.nil (Own.nil _ _ _), OwnRows.nil (Own.nil _ _ _), fun g hg => by simp [foot, Sl.blk, Sl.nil] at hg, hb1⟩
  have hP : IsP L := by simpa using h
  have hnd : L.Nodup := (permOk_iff.1 hP.2).1
  have hL8 := hP.1
  refine lit0 oneSint (B := w.heap.size) hb1.size ?_
  intro a0 w2 ha0 hg2 hc2
  have hb2 := below_of_grow hg2
  have hb02 := hb1.trans (hb2.mono hb1.size)
  refine lit0 oneSint (B := w.heap.size) hb02.size ?_
  intro b0 w3 hb0 hg3 hc3
  have hb3 := below_of_grow hg3
  rw [hpn]
  refine impl_InsertPerm.L5_rule _ _ _ _ _ _ _ (I := fun a b k w' => OutS w w.heap.size L a b k w') (μ := fun _ _ k _ => (L.length - k).toNat)
    ⟨by omega, by omega, hb02.trans (hb3.mono hb02.size), (hb02.trans (hb3.mono hb02.size)).size, [], [], (OwnRows.nil ha0).grow hb3, OwnRows.nil hb0, fun g hg => by simp [foot, Sl.blk, hc2] at hg⟩ ?_
  rintro a b k w4 ⟨hk0, hk, hb4, hB4, rsa, rsb, oa, ob, ab⟩
  rw [impl_InsertPerm.B5_s]
  refine bif_dec (fun h3 => ?_) (fun h3 => ?_)
  · have hlt : k.toNat < L.length := by omega
    refine RowI.get (hp.grow hb4) hk0 (by omega) ?_
    refine vsl_new hB4 fun v w5 ov hv5 hb5 => ?_
    have oa5 := oa.grow hb5
    have ob5 := ob.grow hb5
    have ek : L.take (k.toNat + 1) = L.take k.toNat ++ [L.getD k.toNat 0] := by rw [getD_lt hlt]; simp
    have hPperm : (insP (L.take k.toNat)).flatten.Perm (L.take k.toNat) := (insP_all (hnd.sublist (List.take_sublist _ _))).2.1
    refine impl_InsertPerm.L8_rule _ _ _ _ _ _ _ _ _ _ (I := fun r w' => 0 ≤ r ∧ r ≤ (insP (L.take k.toNat)).length ∧ ∃ T x, InnS w w.heap.size b rsb (insQ L k.toNat) L k.toNat (insP (L.take k.toNat)) r.toNat a rsa T v x w') (μ := fun r _ => ((insP (L.take k.toNat)).length - r).toNat)
      ⟨by omega, by omega, _, _, ⟨hb4.trans (hb5.mono hB4), (hb4.trans (hb5.mono hB4)).size, oa5, ob5, ab, ov, fun g hg e => by have := (oa.footLt hg).2; omega, fun g hg e => by have := (ob.footLt hg).2; omega, rfl, ?_, by simp, ?_⟩⟩ ?_
    · simp only [Int.toNat_zero, List.take_zero, List.nil_append, List.drop_zero]
      rw [ek, insP_snoc]
    · rw [ek]
      exact (List.Perm.cons _ hPperm).trans (List.perm_append_comm (l₁ := [L.getD k.toNat 0]))
    rintro r w6 ⟨hr0, hr, T, x, h⟩
    have hTl := h.len
    rw [impl_InsertPerm.B8_s, h.oa.n]
    refine bif_dec (fun h4 => ?_) (fun h4 => ?_)
    · have hr1 : r.toNat < T.length := by omega
      have hfr := h.fresh hnd hr1
      have hRl := h.rowLen hr1
      obtain ⟨ta, hta, hot⟩ := h.oa.get hr1
      refine Row.get (sh := .sl) (r := ta) h.oa.out.row hr0 (by rw [List.getElem?_map, hta]; rfl) ?_
      refine (c_IndexFuncI hot.row (by omega) (φ := fun y => decide (y > x)) fun y _ => c_InsertFn (vsl_cell h.ov) y).mono ?_
      rintro e w7 ⟨rfl, hb7⟩
      refine ⟨_, rfl, ?_⟩
      have h7 : InnS w w.heap.size b rsb (insQ L k.toNat) L k.toNat (insP (L.take k.toNat)) r.toNat a rsa T v x w7 := { h with
        below := h.below.trans (hb7.mono h.hB), hB := Nat.le_trans h.hB hb7.size, oa := h.oa.grow hb7, ob := h.ob.grow hb7, ov := h.ov.grow hb7 }
      rw [idxF_rpos hfr]
      by_cases hpos : rpos (T.getD r.toNat []) x < (T.getD r.toNat []).length
      · rw [if_pos hpos]
        refine bif_f (by simp) ?_
        refine drew_intro fun w8 hd8 => ?_
        have hh := hd8.heap'
        have h8 : InnS w w.heap.size b rsb (insQ L k.toNat) L k.toNat (insP (L.take k.toNat)) r.toNat a rsa T v x w8 := { h7 with
          below := h7.below.trans (hd8.below _), hB := by rw [hh]; exact h7.hB, oa := h7.oa.heap hh, ob := h7.ob.heap hh, ov := Own.heap h7.ov hh }
        have hot8 := h8.oa.at_ r.toNat ta _ hta (by rw [List.getElem?_eq_getElem hr1, ← getD_SS hr1])
        refine h8.oa.placeT hr0 (by omega) hta fun a1 _ hc1 => ?_
        refine h8.oa.placeT hr0 (by omega) hta fun a2 _ hc2 => ?_
        have hcv := vsl_cell h8.ov
        have hpl : ∀ K : Addr → Prop, (∀ a', w8.cell? a' = some (vI ((T.getD r.toNat []).getD (rpos (T.getD r.toNat []) x) 0)) → K a') → idxK 1 ta (rpos (T.getD r.toNat []) x : Int) K := fun K hk => by
          refine RowI.place hot8.row (by omega) (by omega) ?_
          rw [Int.toNat_natCast]
          exact hk
        have fin : idxK 1 ta (rpos (T.getD r.toNat []) x : Int) fun a29 => storeC a29 (vI x) w8 fun w1 => storeC v (vI ((T.getD r.toNat []).getD (rpos (T.getD r.toNat []) x) 0)) w1 fun w2 => ∃ r_n, impl_InsertPerm.emb8 a b k v (w64 (r + 1)) p L.length k = impl_InsertPerm.emb8 a b k v r_n p L.length k ∧ (0 ≤ r_n ∧ r_n ≤ (insP (L.take k.toNat)).length ∧ ∃ T x, InnS w w.heap.size b rsb (insQ L k.toNat) L k.toNat (insP (L.take k.toNat)) r_n.toNat a rsa T v x w2) ∧ (((insP (L.take k.toNat)).length : Int) - r_n).toNat < (((insP (L.take k.toNat)).length : Int) - r).toNat := by
          refine ins_swap h8 hr0 (by omega) hta hpos fun w9 h9 => ?_
          have hPn := (insQ_rows L k.toNat).2
          rw [insQ_length L k.toNat (by omega)] at hPn
          exact ⟨r + 1, by rw [w64_succ hr0 (by omega)], ⟨by omega, by omega, _, _, h9⟩, by omega⟩
        have l1 : ∀ K : Sl → Prop, K ta → load1 .sl a1 w8 K := fun K hk => load_sl hc1 hk
        have l2 : ∀ K : Sl → Prop, K ta → load1 .sl a2 w8 K := fun K hk => load_sl hc2 hk
        have l3 : ∀ K : Int → Prop, K x → load1 (.int .i64) v w8 K := fun K hk => load_int hcv hk
        repeat' first
          | (with_reducible exact fin)
          | (with_reducible apply And.intro)
          | (with_reducible refine l1 _ ?_)
          | (with_reducible refine l2 _ ?_)
          | (with_reducible refine l3 _ ?_)
          | (with_reducible refine load_int (by assumption) ?_)
          | (with_reducible refine hpl _ ?_; intro _ _)
      · rw [if_neg hpos]
        refine bif_t (by simp) ?_
        exact ins_end hk0 (by omega) (by omega) h7 hr0 (by omega) (fun _ => hpos) (by omega)
    · exact ins_end hk0 (by omega) (by omega) h hr0 (by omega) (fun hh => absurd hh (by omega)) (by omega)
  · rw [impl_InsertPerm.A5_0_s]
    have e : k.toNat = L.length := by omega
    rw [e, List.take_length] at oa
    rw [e] at ob
    refine ⟨a, b, rsa, rsb, ?_⟩
    rw [InsertPermV, InsertPermV1, InsertPermV2, if_pos hP, if_pos hP, decide_eq_true hP]
    exact ⟨rfl, oa, ob, ab, hb4⟩
theorem InsertPermV_len (L : List Int) : (InsertPermV L).length < 2^38 ∧ tot (InsertPermV L) < 2^38 := by
  by_cases h : IsP L
  · exact insP_tot h
  · rw [InsertPermV, if_neg h]; exact ⟨by simp, by simp [tot]⟩
theorem insQ_tot (L : List Int) : ∀ m, tot (insQ L m) = m
  | 0 => rfl
  | m + 1 => by
    have ih := insQ_tot L m
    rw [insQ, addAt]
    split
    · rename_i hlt
      have h1 : insQ L m = (insQ L m).take (tabRow (insP (L.take m)) (L.getD m 0)) ++ (insQ L m).getD (tabRow (insP (L.take m)) (L.getD m 0)) [] :: (insQ L m).drop (tabRow (insP (L.take m)) (L.getD m 0) + 1) := by rw [getD_SS hlt]; simp
      rw [List.set_eq_take_append_cons_drop, if_pos hlt, tot_append, tot_cons, List.length_append, List.length_singleton]
      rw [h1, tot_append, tot_cons] at ih
      omega
    · rw [tot_append, ih]; simp [tot]
theorem InsertPermV_len1 (L : List Int) : (InsertPermV1 L).length < 2^38 ∧ tot (InsertPermV1 L) < 2^38 := by
  by_cases h : IsP L
  · rw [InsertPermV1, if_pos h]
    have h1 := (insQ_rows L L.length).2
    have h2 := insQ_tot L L.length
    have := h.1
    exact ⟨by omega, by omega⟩
  · rw [InsertPermV1, if_neg h]; exact ⟨by simp, by simp [tot]⟩
end Go.Proofs.Ytmhgjfahgemblaa
