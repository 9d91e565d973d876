/- The texts CodeFu, FnVal, FuI, InsI, CodePt, CodeSa, Same, PotS, CodeFs, FuS, CodeEq, Eq, PotI, Turn, FillI in one (gmerge.py). -/
import Derived.Test.YtdchjhhpbdekeaaTbM6
/- What each function does, step by step, written by a program (Gen.lean); each equation is checked by the kernel. -/
namespace Go.Proofs.Ytdchjhhpbdekeaa
open Go
set_option linter.unusedVariables false
set_option maxRecDepth 100000
namespace slices_IndexFunc___int_int_
@[reducible] def cfg : Cfg := ⟨19, [(2, [0, 1, 7, 8])], [(1, [0, 1, 7, 8]), (0, [])], [], [4], [], [101, 107, 112, 15, 21, 124, 76, 137, 28, 115, 91, 81, 130], [138, 140, 82, 6, 86, 85, 132]⟩
def q0 (pr : Prims) (R : Ending → World → Prop) : Exit → Env → World → Prop := fun ex e w => normQ ex (fun e w => contE pr cfg (sub (codeOf Try.f100) [1, 1]) (fun e w => wpC pr PP cfg (DD pr) (sub (codeOf Try.f100) [1, 1]) (retQ Try.f100.results.toList R) e w) e w) (retQ Try.f100.results.toList R) e w
def q1 (pr : Prims) (R : Ending → World → Prop) : Exit → Env → World → Prop := fun ex e w => blockQ ex 0 (q0 pr R) e w
def emb2 (s_0 : Sl) (f_1 : Value) (t7 : Int) (t8 : Int) : Env := [(0, Sl.v s_0), (1, f_1), (7, vI t7), (8, vI t8)]
def x0 : Env := []
def S2 (pr : Prims) (Q : Exit → Env → World → Prop) : (Env → World → Prop) → Env → World → Prop := fun k e w => wpC pr PP cfg (DD pr) (sub (codeOf Try.f100) [1, 0, 1, 0, 0]) (fun ex e w => normQ ex (fun e' w' => k (Env.restr e' (lookN cfg.loops (keyOf (sub (codeOf Try.f100) [1, 0, 1, 0, 0])))) w') Q e w) e w
def B2 (pr : Prims) (s_0 : Sl) (f_1 : Value) (t7 : Int) (t8 : Int) (w : World) (k : Env → World → Prop) (Q : Exit → Env → World → Prop) : Prop :=
  S2 pr Q k (emb2 s_0 f_1 t7 t8) w
def L2 (pr : Prims) (s_0 : Sl) (f_1 : Value) (t7 : Int) (t8 : Int) (w : World) (Q : Exit → Env → World → Prop) : Prop :=
  pr.loop (S2 pr Q) (emb2 s_0 f_1 t7 t8) w
def E (pr : Prims) (s_0 : Sl) (f_1 : Value) (w : World) (R : Ending → World → Prop) : Prop :=
  wpC pr PP cfg (DD pr) (codeOf Try.f100) (retQ Try.f100.results.toList R) (argE 0 [Sl.v s_0, f_1]) w
theorem B2_eq (pr : Prims) (s_0 : Sl) (f_1 : Value) (t7 : Int) (t8 : Int) (w : World) (k : Env → World → Prop) (Q : Exit → Env → World → Prop) : B2 pr s_0 f_1 t7 t8 w k Q = (
  bif decide (t8 < t7) then (
  pr.idxK 1 s_0 t8 fun (a2 : Addr) =>
  pr.load1 (.int .i64) a2 w fun (ξ3 : Int) =>
  pr.callV1 .bool PP (f_1) [vI ξ3] w fun (ρ4 : Bool) ω5 =>
  bif ρ4 then (
  Q .ret [(4, vI t8)] ω5)
  else (
  k (emb2 s_0 f_1 t7 (w64 (t8 + 1))) ω5))
  else (
  Q (.exit 0) (x0) w)) := by kernel_rfl
theorem B2_s (s_0 : Sl) (f_1 : Value) (t7 : Int) (t8 : Int) (w : World) (k : Env → World → Prop) (Q : Exit → Env → World → Prop) : B2 std s_0 f_1 t7 t8 w k Q = (
  bif decide (t8 < t7) then (
  idxK 1 s_0 t8 fun (a2 : Addr) =>
  load1 (.int .i64) a2 w fun (ξ3 : Int) =>
  callV1 .bool PP (f_1) [vI ξ3] w fun (ρ4 : Bool) ω5 =>
  bif ρ4 then (
  Q .ret [(4, vI t8)] ω5)
  else (
  k (emb2 s_0 f_1 t7 (w64 (t8 + 1))) ω5))
  else (
  Q (.exit 0) (x0) w)) := B2_eq std s_0 f_1 t7 t8 w k Q
theorem L2_rule (s_0 : Sl) (f_1 : Value) (t7 : Int) (t8 : Int) (w : World) (Q : Exit → Env → World → Prop) (I : Int → World → Prop) (μ : Int → World → Nat) (h0 : I t8 w)
    (h : ∀ (t8 : Int) (w' : World), I t8 w' → B2 std s_0 f_1 t7 t8 w' (fun e2 w2 => ∃ t8_n, e2 = emb2 s_0 f_1 t7 t8_n ∧ I t8_n w2 ∧ μ t8_n w2 < μ t8 w') Q) :
    L2 std s_0 f_1 t7 t8 w Q := by
  unfold L2
  refine LoopE.intro (σ := Int) (step := S2 std Q) (fun s => emb2 s_0 f_1 t7 s) (fun s w => I s w) (fun s w => μ s w) t8 rfl h0 ?_
  intro s w' hI
  have h1 := h s w' hI
  unfold B2 at h1
  exact h1
theorem A2_0_eq (pr : Prims) (w : World) (R : Ending → World → Prop) : (q1 pr R) (.exit 0) (x0) w = (
  R (.returned (vI (-1))) w) := by kernel_rfl
theorem A2_0_s (w : World) (R : Ending → World → Prop) : (q1 std R) (.exit 0) (x0) w = (
  R (.returned (vI (-1))) w) := A2_0_eq std w R
theorem R2_eq (pr : Prims) (v4 : Value) (w : World) (R : Ending → World → Prop) : (q1 pr R) .ret [(4, v4)] w = (
  R (.returned (v4)) w) := by kernel_rfl
theorem R2_s (v4 : Value) (w : World) (R : Ending → World → Prop) : (q1 std R) .ret [(4, v4)] w = (
  R (.returned (v4)) w) := R2_eq std v4 w R
theorem E_eq (pr : Prims) (s_0 : Sl) (f_1 : Value) (w : World) (R : Ending → World → Prop) : E pr s_0 f_1 w R = (
  L2 pr s_0 f_1 (s_0.n : Int) 0 w (q1 pr R)) := by kernel_rfl
theorem E_s (s_0 : Sl) (f_1 : Value) (w : World) (R : Ending → World → Prop) : E std s_0 f_1 w R = (
  L2 std s_0 f_1 (s_0.n : Int) 0 w (q1 std R)) := E_eq std s_0 f_1 w R
theorem drawsOk : drawsOk PP cfg okD (codeOf Try.f100) = true := by kernel_rfl
theorem calls (s_0 : Sl) (f_1 : Value) {w : World} {R : Ending → World → Prop} (h : E std s_0 f_1 w R) : Calls PP F.slices_IndexFunc___int_int_ #[Sl.v s_0, f_1] w R :=
  calls_of noCount mixed drawOk Try.func100 rfl (c := cfg) (args := [Sl.v s_0, f_1]) rfl (Nat.le_of_ble_eq_true (by kernel_rfl)) drawsOk h
end slices_IndexFunc___int_int_

end Go.Proofs.Ytdchjhhpbdekeaa

/- Function values with one bool result; new variables. -/
namespace Go.Proofs.Ytdchjhhpbdekeaa
open Go Go.RowKit
set_option maxRecDepth 100000

/-- A function value that answers b, and adds to memory at most. -/
def FnB (w0 : World) (f : Value) (args : List Value) (b : Bool) : Prop := ∀ w, Below w0.heap.size w0 w → ∃ g first cap, f = .func (.func g) first cap ∧ bodied PP g = true ∧ Calls PP g ((first ++ args.toArray) ++ cap) w fun e w' => e = .returned (.bool b) ∧ Below w.heap.size w w'
theorem FnB.callV1 {w0 f args b} (h : FnB w0 f args b) {w : World} (hb : Below w0.heap.size w0 w) {K : Bool → World → Prop} (hk : ∀ w', Below w.heap.size w w' → K b w') : callV1 .bool PP f args w K := by
  obtain ⟨g, first, cap, hf, hbd, hc⟩ := h w hb
  exact ⟨g, first, cap, hf, hbd, hc.mono fun e w' ⟨he, hb⟩ => ⟨b, he, hk w' hb⟩⟩
theorem FnB.grow {w0 f args b} (h : FnB w0 f args b) {w : World} (hb : Below w0.heap.size w0 w) : FnB w f args b := fun w' hb' => h w' (hb.trans (hb'.mono hb.size))
theorem cell_grow {w w' : World} {a : Addr} {v : Value} (h : w.cell? a = some v) (hb : Below w.heap.size w w') : w'.cell? a = some v := by
  rw [hb.cell (World.block_lt_of_cell? w _ h)]; exact h
theorem new_one {t : TypeId} {v : Value} {w : World} {K : Addr → World → Prop} (h : ∀ ad w', w'.cell? ad = some v → Below w.heap.size w w' → K ad w') : newK t #[v] w K := by
  refine h ⟨w.heap.size, 0, none⟩ (w.alloc (.cells #[v] t)) ?_ (below_of_grow (World.grownBy_alloc w _ none))
  have := cell_of_row (w.alloc (.cells #[v] t)) w.heap.size 0 #[v] t (0, 0) (heap_alloc_new w _)
  rw [this]; rfl
/-- A new variable, set at once. -/
theorem new_set {t : TypeId} {u v : Value} {w : World} {K : Addr → World → Prop} (h : ∀ ad w', w'.cell? ad = some v → Below w.heap.size w w' → K ad w') : newK t #[u] w fun ad w1 => storeC ad v w1 (K ad) := by
  have hnew := heap_alloc_new w (.cells #[u] t)
  have hc : (w.alloc (.cells #[u] t)).cell? ⟨w.heap.size, 0, none⟩ = some u := by
    have := cell_of_row (w.alloc (.cells #[u] t)) w.heap.size 0 #[u] t (0, 0) hnew
    rw [this]; rfl
  refine ⟨⟨u, hc⟩, by simp only [World.frozen?, hnew]; rfl, h _ _ ?_ ?_⟩
  · have h1 : ((w.alloc (.cells #[u] t)).setCell ⟨w.heap.size, 0, none⟩ v).heap[w.heap.size]? = some (.cells (#[u].setIfInBounds 0 v) t (0, 0)) := by
      simp only [World.setCell, Array.getElem?_modify, hnew]; rfl
    have := cell_of_row _ w.heap.size 0 _ t (0, 0) h1
    rw [this]; rfl
  · have hb := below_of_grow (World.grownBy_alloc w (.cells #[u] t) none)
    refine ⟨hb.os, hb.tape, hb.output, by simp [World.setCell], fun k hk => ?_⟩
    rw [Below.heap_setCell _ _ _ _ (by simp; omega)]
    exact hb.block k hk
def idxF {α : Type} (φ : α → Bool) (l : List α) : Int := if l.findIdx φ < l.length then (l.findIdx φ : Int) else -1
theorem idxF_nonneg {α : Type} {φ : α → Bool} {l : List α} : decide (idxF φ l ≥ 0) = l.any φ := by
  unfold idxF
  split
  · rename_i h
    rw [List.findIdx_lt_length] at h
    obtain ⟨x, h1, h2⟩ := h
    rw [List.any_eq_true.2 ⟨x, h1, h2⟩, decide_eq_true (by omega)]
  · rename_i h
    rw [List.findIdx_lt_length] at h
    rw [decide_eq_false (by omega)]
    symm
    rw [List.any_eq_false]
    intro x hx hp
    exact h ⟨x, hx, hp⟩
theorem idxF_at {α : Type} {φ : α → Bool} {l : List α} {i : Nat} (hi : i < l.length) (h1 : φ l[i] = true) (h2 : ∀ j (hj : j < i), φ (l[j]'(by omega)) = false) : idxF φ l = i := by
  have : l.findIdx φ = i := by rw [List.findIdx_eq hi]; exact ⟨h1, h2⟩
  rw [idxF, this, if_pos hi]
theorem idxF_none {α : Type} {φ : α → Bool} {l : List α} (h : ∀ j (hj : j < l.length), φ l[j] = false) : idxF φ l = -1 := by
  rw [idxF, if_neg]
  intro h5
  rw [List.findIdx_lt_length] at h5
  obtain ⟨x, h6, h7⟩ := h5
  obtain ⟨i, hi, rfl⟩ := List.getElem_of_mem h6
  rw [h i hi] at h7; cases h7
end Go.Proofs.Ytdchjhhpbdekeaa

/- The library's IndexFunc over rows of ints. -/
namespace Go.Proofs.Ytdchjhhpbdekeaa
open Go Go.RowKit
set_option maxRecDepth 100000

theorem c_IndexFuncI {w : World} {a : Sl} {L : List Int} (ha : RowI w a L) (hL : L.length < 2^38) {f : Value} {φ : Int → Bool} (hf : ∀ x ∈ L, FnB w f [vI x] (φ x)) :
    Calls PP F.slices_IndexFunc___int_int_ #[a.v, f] w fun e w' => e = .returned (vI (idxF φ L)) ∧ Below w.heap.size w w' := by
  have han : a.n = L.length := by have := ha.n; simpa using this
  refine slices_IndexFunc___int_int_.calls a f ?_
  rw [slices_IndexFunc___int_int_.E_s, han]
  refine slices_IndexFunc___int_int_.L2_rule _ _ _ _ _ _ (I := fun k w' => 0 ≤ k ∧ k ≤ L.length ∧ Below w.heap.size w w' ∧ ∀ j (hj : j < L.length), j < k.toNat → φ L[j] = false) (μ := fun k _ => (L.length - k).toNat)
    ⟨by omega, by omega, Below.refl _ _, fun j _ hj => by simp at hj⟩ ?_
  rintro k w' ⟨h0, hk, hb, hall⟩
  rw [slices_IndexFunc___int_int_.B2_s]
  refine bif_dec (fun h3 => ?_) (fun h3 => ?_)
  · have hlt : k.toNat < L.length := by omega
    refine RowI.get (ha.grow hb) h0 (by omega) ?_
    rw [getD_eq hlt]
    refine (hf _ (List.getElem_mem hlt)).callV1 hb ?_
    intro w2 hb2
    refine bif_intro (fun h4 => ?_) (fun h4 => ?_)
    · rw [slices_IndexFunc___int_int_.R2_s]
      refine ⟨?_, hb.trans (hb2.mono hb.size)⟩
      rw [idxF_at hlt h4 (fun j hj => hall j (by omega) hj)]
      congr 2; omega
    · refine ⟨k + 1, by rw [w64_succ h0 (by omega)], ⟨by omega, by omega, hb.trans (hb2.mono hb.size), fun j hj1 hj => ?_⟩, by omega⟩
      by_cases e : j = k.toNat
      · subst e; exact h4
      · exact hall j hj1 (by omega)
  · rw [slices_IndexFunc___int_int_.A2_0_s]
    exact ⟨by rw [idxF_none (fun j hj => hall j hj (by omega))], hb⟩
end Go.Proofs.Ytdchjhhpbdekeaa

/- InsertPerm: the program's text. -/
namespace Go.Proofs.Ytdchjhhpbdekeaa
open Go Go.RowKit
set_option maxRecDepth 100000

theorem rpos_find : ∀ {R : List Int} {x : Int}, x ∉ R → rpos R x = R.findIdx (fun y => decide (y > x))
  | [], x, _ => rfl
  | a :: R, x, h => by
    simp only [List.mem_cons, not_or] at h
    rw [rpos, List.findIdx_cons, rpos_find h.2]
    by_cases h1 : a < x
    · rw [if_pos h1, decide_eq_false (by omega)]; rfl
    · rw [if_neg h1, decide_eq_true (by omega)]; rfl
theorem idxF_rpos {R : List Int} {x : Int} (h : x ∉ R) : idxF (fun y => decide (y > x)) R = if rpos R x < R.length then (rpos R x : Int) else -1 := by
  rw [idxF, rpos_find h]
theorem c_InsertFn {w0 : World} {v : Addr} {x : Int} (hv : w0.cell? v = some (vI x)) (y : Int) : FnB w0 (.func (.func F.impl_InsertPermL1) #[] #[.pointer (some v)]) [vI y] (decide (y > x)) := by
  intro w hb
  refine ⟨F.impl_InsertPermL1, #[], #[.pointer (some v)], rfl, by kernel_rfl, ?_⟩
  refine impl_InsertPermL1.calls y v ?_
  rw [impl_InsertPermL1.E_s]
  exact load_int (cell_grow hv hb) ⟨rfl, Below.refl _ _⟩
/-- What stands between two numbers of the list: the state of the inner loop. -/
structure InnS (w0 : World) (B : Nat) (b : Sl) (rsb : List Sl) (Q : List (List Int)) (L : List Int) (k : Nat) (P : List (List Int)) (rw_ : Nat) (a : Sl) (rsa : List Sl) (T : List (List Int)) (v : Addr) (x : Int) (w : World) : Prop where
  below : Below B w0 w
  hB : B ≤ w.heap.size
  oa : OwnRows w B a rsa T
  ob : OwnRows w B b rsb Q
  ab : ∀ g, foot a rsa g → ¬ foot b rsb g
  ov : OwnI w B (vsl v) [x]
  va : ∀ g, foot a rsa g → v.block ≠ g
  vb : ∀ g, foot b rsb g → v.block ≠ g
  len : T.length = P.length
  ins : T.take rw_ ++ tabIns (T.drop rw_) x = insP (L.take (k + 1))
  row : rw_ + tabRow (T.drop rw_) x = tabRow P (L.getD k 0)
  perm : (x :: T.flatten).Perm (L.take (k + 1))
theorem InnS.fresh {w0 B b rsb Q L k P r a rsa T v x w} (h : InnS w0 B b rsb Q L k P r a rsa T v x w) (hn : L.Nodup) {i : Nat} (hi : i < T.length) : x ∉ T.getD i [] := by
  have h1 : (x :: T.flatten).Nodup := h.perm.nodup_iff.2 (hn.sublist (List.take_sublist _ _))
  intro hm
  exact (List.nodup_cons.1 h1).1 (List.mem_flatten.2 ⟨T.getD i [], by rw [getD_SS hi]; exact List.getElem_mem hi, hm⟩)
theorem InnS.rowLen {w0 B b rsb Q L k P r a rsa T v x w} (h : InnS w0 B b rsb Q L k P r a rsa T v x w) {i : Nat} (hi : i < T.length) : (T.getD i []).length ≤ L.length := by
  have h1 := h.perm.length_eq
  have h2 := flat_tab (T := T) (R := T.getD i []) (by rw [getD_SS hi]; exact List.getElem_mem hi)
  rw [List.length_cons, List.length_take] at h1
  omega
theorem insQ_rows (L : List Int) : ∀ m, (∀ M ∈ insQ L m, M.length ≤ m) ∧ (insQ L m).length ≤ m
  | 0 => by simp [insQ]
  | m + 1 => by
    have ih := insQ_rows L m
    rw [insQ, addAt]
    split
    · rename_i hlt
      refine ⟨fun M hM => ?_, by simp; omega⟩
      rcases List.mem_or_eq_of_mem_set hM with hM | rfl
      · have := ih.1 M hM; omega
      · have := ih.1 _ (show (insQ L m).getD (tabRow (insP (L.take m)) (L.getD m 0)) [] ∈ insQ L m by rw [getD_SS hlt]; exact List.getElem_mem hlt)
        simp at this ⊢; omega
    · refine ⟨fun M hM => ?_, by simp; omega⟩
      rcases List.mem_append.1 hM with hM | hM
      · have := ih.1 M hM; omega
      · simp at hM; subst hM; simp
/-- The state of the outer loop. -/
def OutS (w0 : World) (B : Nat) (L : List Int) (a b : Sl) (k : Int) (w : World) : Prop :=
  0 ≤ k ∧ k ≤ L.length ∧ Below B w0 w ∧ B ≤ w.heap.size ∧ ∃ rsa rsb, OwnRows w B a rsa (insP (L.take k.toNat)) ∧ OwnRows w B b rsb (insQ L k.toNat) ∧ (∀ g, foot a rsa g → ¬ foot b rsb g)
set_option maxHeartbeats 4000000 in
/-- The last step of a number: both rows grow, whatever the order. -/
theorem both_grow {w0 w : World} {B : Nat} {L : List Int} {a b : Sl} {rsa rsb : List Sl} {T Q : List (List Int)} {k r : Int} {v : Addr} {x : Int} (hk0 : 0 ≤ k) (hkL : k < L.length) (hL : L.length < 2^30) (hb : Below B w0 w) (hB : B ≤ w.heap.size)
    (oa : OwnRows w B a rsa T) (ob : OwnRows w B b rsb Q) (ab : ∀ g, foot a rsa g → ¬ foot b rsb g) (ov : OwnI w B (vsl v) [x]) (va : ∀ g, foot a rsa g → v.block ≠ g) (vb : ∀ g, foot b rsb g → v.block ≠ g)
    (hr0 : 0 ≤ r) (hra : r < T.length) (hrb : r < Q.length) (hTl : (T.getD r.toNat []).length ≤ L.length) (hQl : (Q.getD r.toNat []).length ≤ L.length)
    (eP : T.set r.toNat (T.getD r.toNat [] ++ [x]) = insP (L.take (k + 1).toNat)) (eQ : Q.set r.toNat (Q.getD r.toNat [] ++ [k + 1]) = insQ L (k + 1).toNat) {p : Sl} {n : Int} {Qk : Exit → Env → World → Prop} {μ0 : Nat} (hμ : (L.length - (k + 1)).toNat < μ0) :
    impl_InsertPerm.J15 std a b k v r p n k w (fun e2 w2 => ∃ a_n b_n k_n, e2 = impl_InsertPerm.emb5 a_n b_n p n k_n ∧ OutS w0 B L a_n b_n k_n w2 ∧ (L.length - k_n).toNat < μ0) Qk := by
  obtain ⟨ta, hta, hoa⟩ := oa.get (i := r.toNat) (by omega)
  obtain ⟨tb, htb, hob⟩ := ob.get (i := r.toNat) (by omega)
  have hma := List.mem_of_getElem? hta
  have hmb := List.mem_of_getElem? htb
  have hapt : Apt ta tb := fun g h1 h2 => ab g (.inr ⟨ta, hma, h1⟩) (.inr ⟨tb, hmb, h2⟩)
  rw [impl_InsertPerm.J15_s, w64_succ hk0 (by omega)]
  refine drew_intro fun w1 hd1 => ?_
  have hh := hd1.heap'
  have hb1 : Below B w0 w1 := hb.trans (hd1.below _)
  have hB1 : B ≤ w1.heap.size := by rw [hh]; exact hB
  replace oa := oa.heap hh
  replace ob := ob.heap hh
  replace ov := Own.heap ov hh
  replace hoa := Own.heap hoa hh
  replace hob := Own.heap hob hh
  refine oa.placeT hr0 (by omega) hta fun aa haa hca => ?_
  refine ob.placeT hr0 (by omega) htb fun ad had hcb => ?_
  have hcv := vsl_cell ov
  have na1 : ta.blk ≠ some aa.block := fun e => (oa.out.apt hoa (by decide)) _ haa e
  have na2 : tb.blk ≠ some aa.block := fun e => (oa.out.apt hob (by decide)) _ haa e
  have nb1 : ta.blk ≠ some ad.block := fun e => (ob.out.apt hoa (by decide)) _ had e
  have nb2 : tb.blk ≠ some ad.block := fun e => (ob.out.apt hob (by decide)) _ had e
  have nv1 : ta.blk ≠ some v.block := fun e => va _ (.inr ⟨ta, hma, e⟩) rfl
  have nv2 : tb.blk ≠ some v.block := fun e => vb _ (.inr ⟨tb, hmb, e⟩) rfl
  have h0 : JS w1 B ta tb (T.getD r.toNat []) (Q.getD r.toNat []) x (k + 1) w1 none none none none := JS.start hB1 hoa hob hapt (by omega) (by omega)
  have fin : ∀ (w' : World) (pa pb : Option Sl) (ta' tb' : Sl), JS w1 B ta tb (T.getD r.toNat []) (Q.getD r.toNat []) x (k + 1) w' pa (some ta') pb (some tb') →
      idxK 1 a r fun (a17 : Addr) => storeC a17 (Sl.v ta') w' fun w2 => idxK 1 b r fun (a18 : Addr) => storeC a18 (Sl.v tb') w2 fun w3 => ∃ a_n b_n k_n, impl_InsertPerm.emb5 a b p n (k + 1) = impl_InsertPerm.emb5 a_n b_n p n k_n ∧ OutS w0 B L a_n b_n k_n w3 ∧ (L.length - k_n).toNat < μ0 := by
    intro w' pa pb ta' tb' hj
    obtain ⟨hta', hna⟩ := hj.a1 ta' rfl
    obtain ⟨htb', hnb⟩ := hj.b1 tb' rfl
    refine oa.storeK hr0 (by omega) hta hj.keeps (fun g h1 h2 => ?_) hta' hna fun w2 oa2 hg2 st2 => ?_
    · rcases h2 with h2 | h2
      · exact h2
      · exact absurd (.inr ⟨tb, hmb, h2⟩) (ab g h1)
    rw [eP] at oa2
    have ok2 : ∀ t M, OwnI w' B t M → OwnI w2 B t M := fun t M ht => ht.kept hg2 fun g h1 h2 => (oa.out.keeps hj.keeps (fun g' h3 h4 => by
      rcases h4 with h4 | h4
      · exact (oa.out.apt hoa (by decide)) g' h3 h4
      · exact (oa.out.apt hob (by decide)) g' h3 h4)).apt ht (by decide) g h2 h1
    refine ob.storeK hr0 (by omega) htb (S := fun g => (ta.blk = some g ∨ tb.blk = some g) ∨ foot a rsa g) st2.keeps (fun g h1 h2 => ?_) (ok2 _ _ htb') hnb fun w3 ob3 hg3 st3 => ?_
    · rcases h2 with (h2 | h2) | h2
      · exact absurd h1 (ab g (.inr ⟨ta, hma, h2⟩))
      · exact h2
      · exact absurd h1 (ab g h2)
    rw [eQ] at ob3
    refine ⟨a, b, k + 1, rfl, ⟨by omega, by omega, ?_, ?_, _, _, oa2.keeps (keeps_grown hg3) (fun g h1 h2 => ab g (.inl h1) (.inl h2)) (fun t ht g h1 h2 => ?_), ob3, fun g h1 h2 => ?_⟩, hμ⟩
    · refine hb1.trans (st3.keeps.below (fun g hg => ?_) hB1)
      rcases hg with ((hg | hg) | hg) | hg
      · exact (oa.lt hma hg).1
      · exact (ob.lt hmb hg).1
      · exact (oa.footLt hg).1
      · exact (ob.footLt hg).1
    · exact Nat.le_trans hB1 st3.keeps.size
    · obtain ⟨M, _, hM⟩ := oa2.own ht
      exact (ob.out.keeps st2.keeps (fun g' h3 h4 => by
        rcases h4 with (h4 | h4) | h4
        · exact (ob.out.apt hoa (by decide)) g' h3 h4
        · exact (ob.out.apt hob (by decide)) g' h3 h4
        · exact ab g' h4 (.inl h3))).apt hM (by decide) g h2 h1
    · rcases h1 with h1 | ⟨t, ht, h1⟩
      · rcases h2 with h2 | ⟨u, hu, h2⟩
        · exact ab g (.inl h1) (.inl h2)
        · rcases List.mem_or_eq_of_mem_set hu with hu | rfl
          · exact ab g (.inl h1) (.inr ⟨u, hu, h2⟩)
          · rcases hnb g h2 with h3 | h3
            · exact ab g (.inl h1) (.inr ⟨tb, hmb, h3⟩)
            · have := (oa.out.lt g h1).2; omega
      · rcases List.mem_or_eq_of_mem_set ht with ht | rfl
        · rcases h2 with h2 | ⟨u, hu, h2⟩
          · exact ab g (.inr ⟨t, ht, h1⟩) (.inl h2)
          · rcases List.mem_or_eq_of_mem_set hu with hu | rfl
            · exact ab g (.inr ⟨t, ht, h1⟩) (.inr ⟨u, hu, h2⟩)
            · rcases hnb g h2 with h3 | h3
              · exact ab g (.inr ⟨t, ht, h1⟩) (.inr ⟨tb, hmb, h3⟩)
              · have := (oa.lt ht h1).2; omega
        · rcases h2 with h2 | ⟨u, hu, h2⟩
          · rcases hna g h1 with h3 | h3
            · exact ab g (.inr ⟨ta, hma, h3⟩) (.inl h2)
            · have := (ob.out.lt g h2).2; omega
          · rcases List.mem_or_eq_of_mem_set hu with hu | rfl
            · rcases hna g h1 with h3 | h3
              · exact ab g (.inr ⟨ta, hma, h3⟩) (.inr ⟨u, hu, h2⟩)
              · have := (ob.lt hu h2).2; omega
            · exact hj.ap _ _ rfl rfl g h1 h2
  clear eP eQ hTl hQl
  have la : ∀ (w' : World) (pa da pb db : Option Sl) (K : Sl → Prop), JS w1 B ta tb (T.getD r.toNat []) (Q.getD r.toNat []) x (k + 1) w' pa da pb db → K ta → load1 .sl aa w' K := fun w' pa da pb db K hj hk => load_sl (hj.cell hca na1 na2) hk
  have lb : ∀ (w' : World) (pa da pb db : Option Sl) (K : Sl → Prop), JS w1 B ta tb (T.getD r.toNat []) (Q.getD r.toNat []) x (k + 1) w' pa da pb db → K tb → load1 .sl ad w' K := fun w' pa da pb db K hj hk => load_sl (hj.cell hcb nb1 nb2) hk
  have lv : ∀ (w' : World) (pa da pb db : Option Sl) (K : Int → Prop), JS w1 B ta tb (T.getD r.toNat []) (Q.getD r.toNat []) x (k + 1) w' pa da pb db → K x → load1 (.int .i64) v w' K := fun w' pa da pb db K hj hk => load_int (hj.cell hcv nv1 nv2) hk
  repeat' first
    | (with_reducible exact fin _ _ _ _ _ (by assumption))
    | (with_reducible apply And.intro)
    | (with_reducible refine la _ _ _ _ _ _ (by assumption) ?_)
    | (with_reducible refine lb _ _ _ _ _ _ (by assumption) ?_)
    | (with_reducible refine lv _ _ _ _ _ _ (by assumption) ?_)
    | (with_reducible refine JS.litA (by assumption) ?_; intro _ _ _)
    | (with_reducible refine JS.litB (by assumption) ?_; intro _ _ _)
    | (with_reducible refine JS.appA (by assumption) ?_; intro _ _ _)
    | (with_reducible refine JS.appB (by assumption) ?_; intro _ _ _)
/-- Behind the search of a row: the new rows where they are wanted, and the last step. -/
theorem ins_end {w0 w : World} {B : Nat} {L : List Int} {a b : Sl} {rsa rsb : List Sl} {T : List (List Int)} {k r : Int} {v : Addr} {x : Int} (hk0 : 0 ≤ k) (hkL : k < L.length) (hL : L.length < 2^30)
    (h : InnS w0 B b rsb (insQ L k.toNat) L k.toNat (insP (L.take k.toNat)) r.toNat a rsa T v x w) (hr0 : 0 ≤ r) (hr : r ≤ T.length) (hrow : r < T.length → ¬ rpos (T.getD r.toNat []) x < (T.getD r.toNat []).length)
    {p : Sl} {n : Int} {Qk : Exit → Env → World → Prop} {μ0 : Nat} (hμ : (L.length - (k + 1)).toNat < μ0) :
    (impl_InsertPerm.q16 std (fun e2 w2 => ∃ a_n b_n k_n, e2 = impl_InsertPerm.emb5 a_n b_n p n k_n ∧ OutS w0 B L a_n b_n k_n w2 ∧ (L.length - k_n).toNat < μ0) Qk) (.exit 2) (impl_InsertPerm.x2 a b k v r p n k) w := by
  have hQl := insQ_length L k.toNat (by omega)
  have hTP := h.len
  have hQr := insQ_rows L k.toNat
  have hins := h.ins
  have hrow' := h.row
  have eQ : insQ L (k + 1).toNat = addAt (insQ L k.toNat) (tabRow (insP (L.take k.toNat)) (L.getD k.toNat 0)) (k + 1) := by
    rw [show (k + 1).toNat = k.toNat + 1 by omega, insQ]; congr 1; omega
  have ek : (k + 1).toNat = k.toNat + 1 := by omega
  rw [impl_InsertPerm.A8_2_s, h.oa.n]
  refine bif_intro (fun h4 => ?_) (fun h4 => ?_)
  · have h4' : r.toNat = T.length := by have := eq_of_beq h4; omega
    rw [h4', List.take_length, List.drop_length, tabIns] at hins
    rw [h4', List.drop_length, tabRow] at hrow'
    refine h.oa.pushF (Below.refl _ _) h.hB (r := Sl.nil) (L := []) (Own.nil _ _ _) (fun g hg => by simp [Sl.blk, Sl.nil] at hg) (by omega) ?_
    intro a' w1 oa1 st1
    have ob1 : OwnRows w1 B b rsb (insQ L k.toNat) := h.ob.keepsF st1.keeps fun g h1 h2 => h.ab g h2 h1
    have ab1 : ∀ g, foot a' (rsa ++ [Sl.nil]) g → ¬ foot b rsb g := st1.apart (fun g hg => (h.ob.footLt hg).2) h.ab
    have va1 : ∀ g, foot a' (rsa ++ [Sl.nil]) g → ¬ v.block = g := st1.apart (F := fun g => v.block = g) (fun g hg => by subst hg; exact (h.ov.lt _ (vsl_blk v)).2) fun g h1 h2 => h.va g h1 h2
    have ov1 : OwnI w1 B (vsl v) [x] := Own.keeps h.ov st1.keeps fun g h1 h2 => by rw [vsl_blk] at h1; simp at h1; exact h.va g h2 h1
    have hB1 : B ≤ w1.heap.size := Nat.le_trans h.hB st1.keeps.size
    refine ob1.pushF (Below.refl _ _) hB1 (r := Sl.nil) (L := []) (Own.nil _ _ _) (fun g hg => by simp [Sl.blk, Sl.nil] at hg) (by omega) ?_
    intro b' w2 ob2 st2
    refine both_grow (T := T ++ [[]]) (Q := insQ L k.toNat ++ [[]]) (rsa := rsa ++ [Sl.nil]) (rsb := rsb ++ [Sl.nil]) hk0 hkL hL (h.below.trans ((st1.below (fun g hg => (h.oa.footLt hg).1) h.hB).trans (st2.below (fun g hg => (ob1.footLt hg).1) hB1))) (Nat.le_trans hB1 st2.keeps.size)
      (oa1.keepsF st2.keeps fun g h1 h2 => ab1 g h1 h2) ob2 (fun g h1 h2 => st2.apart (F := foot a' (rsa ++ [Sl.nil])) (fun g hg => (oa1.footLt hg).2) (fun g h3 h4 => ab1 g h4 h3) g h2 h1)
      (Own.keeps ov1 st2.keeps fun g h1 h2 => by rw [vsl_blk] at h1; simp at h1; exact h.vb g h2 h1) va1 (fun g h1 h2 => st2.apart (F := fun g => v.block = g) (fun g hg => by subst hg; exact (ov1.lt _ (vsl_blk v)).2) (fun g h3 h4 => h.vb g h3 h4) g h1 h2)
      hr0 (by rw [List.length_append, List.length_singleton]; omega) (by rw [List.length_append, List.length_singleton]; omega) ?_ ?_ ?_ ?_ hμ
    · rw [h4']; simp
    · rw [show r.toNat = (insQ L k.toNat).length by omega]; simp
    · rw [ek, ← hins, h4']; simp
    · rw [eQ, addAt, if_neg (by omega), show r.toNat = (insQ L k.toNat).length by omega]; simp
  · have h4' : r.toNat < T.length := by have := ne_of_beq_false h4; omega
    obtain ⟨k1, k2⟩ := tabIns_last h4' (hrow (by omega))
    rw [k1] at hins
    rw [k2] at hrow'
    have hq : r.toNat < (insQ L k.toNat).length := by omega
    refine both_grow hk0 hkL hL h.below h.hB h.oa h.ob h.ab h.ov h.va h.vb hr0 (by omega) (by omega) (h.rowLen h4') ?_ (by rw [ek]; exact hins) ?_ hμ
    · have := hQr.1 _ (show (insQ L k.toNat).getD r.toNat [] ∈ insQ L k.toNat by rw [getD_SS hq]; exact List.getElem_mem hq)
      omega
    · rw [eQ, addAt, if_pos (by omega), show tabRow (insP (L.take k.toNat)) (L.getD k.toNat 0) = r.toNat by omega]
/-- The number at a place changes with the variable, whatever the order. -/
theorem ins_swap {w : World} {B : Nat} {L : List Int} {b : Sl} {rsb : List Sl} {Q : List (List Int)} {kN : Nat} {P : List (List Int)} {w0 : World} {a : Sl} {rsa : List Sl} {T : List (List Int)} {v : Addr} {x r : Int} (h : InnS w0 B b rsb Q L kN P r.toNat a rsa T v x w)
    (hr0 : 0 ≤ r) (hr : r < T.length) {ta : Sl} (hta : rsa[r.toNat]? = some ta) (hp : rpos (T.getD r.toNat []) x < (T.getD r.toNat []).length) {K : World → Prop}
    (hK : ∀ w', InnS w0 B b rsb Q L kN P (r + 1).toNat a rsa (T.set r.toNat ((T.getD r.toNat []).set (rpos (T.getD r.toNat []) x) x)) v ((T.getD r.toNat []).getD (rpos (T.getD r.toNat []) x) 0) w' → K w') :
    idxK 1 ta (rpos (T.getD r.toNat []) x : Int) fun a29 => storeC a29 (vI x) w fun w1 => storeC v (vI ((T.getD r.toNat []).getD (rpos (T.getD r.toNat []) x) 0)) w1 K := by
  have hr' : r.toNat < T.length := by omega
  have hm := List.mem_of_getElem? hta
  have hot := h.oa.at_ r.toNat ta _ hta (by rw [List.getElem?_eq_getElem hr', ← getD_SS hr'])
  refine Own.put hot (by omega) (by rw [List.length_map]; omega) ?_
  intro w1 h1 hg1 _
  have k1 := keeps_grown hg1
  rw [Int.toNat_natCast] at h1
  have h1' : OwnI w1 B ta ((T.getD r.toNat []).set (rpos (T.getD r.toNat []) x) x) := by simp only [OwnI, List.map_set]; exact h1
  have oa1 := h.oa.inside hta h1' hg1
  have ob1 : OwnRows w1 B b rsb Q := h.ob.keepsF k1 fun g h2 h3 => h.ab g (.inr ⟨ta, hm, h3⟩) h2
  have ov1 : OwnI w1 B (vsl v) [x] := Own.keeps h.ov k1 fun g h2 h3 => by rw [vsl_blk] at h2; simp at h2; exact h.va g (.inr ⟨ta, hm, h3⟩) h2
  refine vsl_store ov1 (fun w2 ov2 hg2 => hK w2 ?_)
  have k2 := keeps_grown hg2
  have hb1 : Below B w w1 := k1.below (fun g e => (h.oa.lt hm e).1) h.hB
  obtain ⟨s1, s2⟩ := tabIns_step hr' hp
  have hB1 : B ≤ w1.heap.size := Nat.le_trans h.hB k1.size
  refine ⟨h.below.trans (hb1.trans (k2.below (fun g e => by simp at e; subst e; exact (h.ov.lt _ (vsl_blk v)).1) hB1)), Nat.le_trans hB1 k2.size, ?_, ?_, h.ab, ov2, h.va, h.vb, by rw [List.length_set]; exact h.len, ?_, ?_, (flat_set hr' hp).trans h.perm⟩
  · exact oa1.keepsF k2 fun g h2 h3 => by simp at h3; exact h.va g h2 h3
  · exact ob1.keepsF k2 fun g h2 h3 => by simp at h3; exact h.vb g h2 h3
  · rw [show (r + 1).toNat = r.toNat + 1 by omega, ← s1]; exact h.ins
  · rw [show (r + 1).toNat = r.toNat + 1 by omega]; have := h.row; omega
set_option maxHeartbeats 1000000 in
open Classical in
theorem c_implInsertPerm {w : World} {p : Sl} {L : List Int} (hp : RowI w p L) (hL : L.length < 2^38) :
    Calls PP F.impl_InsertPerm #[p.v] w fun e w' => ∃ (s t : Sl) (rs rt : List Sl), e = .returned (.tuple #[s.v, t.v, .bool (InsertPermV2 L)]) ∧ OwnRows w' w.heap.size s rs (InsertPermV L) ∧ OwnRows w' w.heap.size t rt (InsertPermV1 L) ∧ (∀ g, foot s rs g → ¬ foot t rt g) ∧ Below w.heap.size w w' := by
  have hpn : p.n = L.length := by have := hp.n; simpa using this
  refine impl_InsertPerm.calls p ?_
  rw [impl_InsertPerm.E_s]
  refine (c_implIsPerm hp hL).mono ?_
  rintro e w1 ⟨rfl, hb1⟩
  refine ⟨_, rfl, ?_⟩
  refine bif_intro (fun h => ?_) (fun h => ?_)
  · have hn : ¬ IsP L := fun hh => by simp [hh] at h
    refine ⟨Sl.nil, Sl.nil, [], [], ?_⟩
    rw [InsertPermV, InsertPermV1, InsertPermV2, if_neg hn, if_neg hn, decide_eq_false hn]
    exact ⟨rfl, OwnRows.nil (Own.nil _ _ _), OwnRows.nil (Own.nil _ _ _), fun g hg => by simp [foot, Sl.blk, Sl.nil] at hg, hb1⟩
  have hP : IsP L := by simpa using h
  have hnd : L.Nodup := (permOk_iff.1 hP.2).1
  have hL8 := hP.1
  refine lit0 oneSint (B := w.heap.size) hb1.size ?_
  intro a0 w2 ha0 hg2 hc2
  have hb2 := below_of_grow hg2
  have hb02 := hb1.trans (hb2.mono hb1.size)
  refine lit0 oneSint (B := w.heap.size) hb02.size ?_
  intro b0 w3 hb0 hg3 hc3
  have hb3 := below_of_grow hg3
  rw [hpn]
  refine impl_InsertPerm.L5_rule _ _ _ _ _ _ _ (I := fun a b k w' => OutS w w.heap.size L a b k w') (μ := fun _ _ k _ => (L.length - k).toNat)
    ⟨by omega, by omega, hb02.trans (hb3.mono hb02.size), (hb02.trans (hb3.mono hb02.size)).size, [], [], (OwnRows.nil ha0).grow hb3, OwnRows.nil hb0, fun g hg => by simp [foot, Sl.blk, hc2] at hg⟩ ?_
  rintro a b k w4 ⟨hk0, hk, hb4, hB4, rsa, rsb, oa, ob, ab⟩
  rw [impl_InsertPerm.B5_s]
  refine bif_dec (fun h3 => ?_) (fun h3 => ?_)
  · have hlt : k.toNat < L.length := by omega
    refine RowI.get (hp.grow hb4) hk0 (by omega) ?_
    refine vsl_new hB4 fun v w5 ov hv5 hb5 => ?_
    have oa5 := oa.grow hb5
    have ob5 := ob.grow hb5
    have ek : L.take (k.toNat + 1) = L.take k.toNat ++ [L.getD k.toNat 0] := by rw [getD_lt hlt]; simp
    have hPperm : (insP (L.take k.toNat)).flatten.Perm (L.take k.toNat) := (insP_all (hnd.sublist (List.take_sublist _ _))).2.1
    refine impl_InsertPerm.L8_rule _ _ _ _ _ _ _ _ _ _ (I := fun r w' => 0 ≤ r ∧ r ≤ (insP (L.take k.toNat)).length ∧ ∃ T x, InnS w w.heap.size b rsb (insQ L k.toNat) L k.toNat (insP (L.take k.toNat)) r.toNat a rsa T v x w') (μ := fun r _ => ((insP (L.take k.toNat)).length - r).toNat)
      ⟨by omega, by omega, _, _, ⟨hb4.trans (hb5.mono hB4), (hb4.trans (hb5.mono hB4)).size, oa5, ob5, ab, ov, fun g hg e => by have := (oa.footLt hg).2; omega, fun g hg e => by have := (ob.footLt hg).2; omega, rfl, ?_, by simp, ?_⟩⟩ ?_
    · simp only [Int.toNat_zero, List.take_zero, List.nil_append, List.drop_zero]
      rw [ek, insP_snoc]
    · rw [ek]
      exact (List.Perm.cons _ hPperm).trans (List.perm_append_comm (l₁ := [L.getD k.toNat 0]))
    rintro r w6 ⟨hr0, hr, T, x, h⟩
    have hTl := h.len
    rw [impl_InsertPerm.B8_s, h.oa.n]
    refine bif_dec (fun h4 => ?_) (fun h4 => ?_)
    · have hr1 : r.toNat < T.length := by omega
      have hfr := h.fresh hnd hr1
      have hRl := h.rowLen hr1
      obtain ⟨ta, hta, hot⟩ := h.oa.get hr1
      refine Row.get (sh := .sl) (r := ta) h.oa.out.row hr0 (by rw [List.getElem?_map, hta]; rfl) ?_
      refine (c_IndexFuncI hot.row (by omega) (φ := fun y => decide (y > x)) fun y _ => c_InsertFn (vsl_cell h.ov) y).mono ?_
      rintro e w7 ⟨rfl, hb7⟩
      refine ⟨_, rfl, ?_⟩
      have h7 : InnS w w.heap.size b rsb (insQ L k.toNat) L k.toNat (insP (L.take k.toNat)) r.toNat a rsa T v x w7 := { h with
        below := h.below.trans (hb7.mono h.hB), hB := Nat.le_trans h.hB hb7.size, oa := h.oa.grow hb7, ob := h.ob.grow hb7, ov := h.ov.grow hb7 }
      rw [idxF_rpos hfr]
      by_cases hpos : rpos (T.getD r.toNat []) x < (T.getD r.toNat []).length
      · rw [if_pos hpos]
        refine bif_f (by simp) ?_
        refine drew_intro fun w8 hd8 => ?_
        have hh := hd8.heap'
        have h8 : InnS w w.heap.size b rsb (insQ L k.toNat) L k.toNat (insP (L.take k.toNat)) r.toNat a rsa T v x w8 := { h7 with
          below := h7.below.trans (hd8.below _), hB := by rw [hh]; exact h7.hB, oa := h7.oa.heap hh, ob := h7.ob.heap hh, ov := Own.heap h7.ov hh }
        have hot8 := h8.oa.at_ r.toNat ta _ hta (by rw [List.getElem?_eq_getElem hr1, ← getD_SS hr1])
        refine h8.oa.placeT hr0 (by omega) hta fun a1 _ hc1 => ?_
        refine h8.oa.placeT hr0 (by omega) hta fun a2 _ hc2 => ?_
        have hcv := vsl_cell h8.ov
        have hpl : ∀ K : Addr → Prop, (∀ a', w8.cell? a' = some (vI ((T.getD r.toNat []).getD (rpos (T.getD r.toNat []) x) 0)) → K a') → idxK 1 ta (rpos (T.getD r.toNat []) x : Int) K := fun K hk => by
          refine RowI.place hot8.row (by omega) (by omega) ?_
          rw [Int.toNat_natCast]
          exact hk
        have fin : idxK 1 ta (rpos (T.getD r.toNat []) x : Int) fun a29 => storeC a29 (vI x) w8 fun w1 => storeC v (vI ((T.getD r.toNat []).getD (rpos (T.getD r.toNat []) x) 0)) w1 fun w2 => ∃ r_n, impl_InsertPerm.emb8 a b k v (w64 (r + 1)) p L.length k = impl_InsertPerm.emb8 a b k v r_n p L.length k ∧ (0 ≤ r_n ∧ r_n ≤ (insP (L.take k.toNat)).length ∧ ∃ T x, InnS w w.heap.size b rsb (insQ L k.toNat) L k.toNat (insP (L.take k.toNat)) r_n.toNat a rsa T v x w2) ∧ (((insP (L.take k.toNat)).length : Int) - r_n).toNat < (((insP (L.take k.toNat)).length : Int) - r).toNat := by
          refine ins_swap h8 hr0 (by omega) hta hpos fun w9 h9 => ?_
          have hPn := (insQ_rows L k.toNat).2
          rw [insQ_length L k.toNat (by omega)] at hPn
          exact ⟨r + 1, by rw [w64_succ hr0 (by omega)], ⟨by omega, by omega, _, _, h9⟩, by omega⟩
        have l1 : ∀ K : Sl → Prop, K ta → load1 .sl a1 w8 K := fun K hk => load_sl hc1 hk
        have l2 : ∀ K : Sl → Prop, K ta → load1 .sl a2 w8 K := fun K hk => load_sl hc2 hk
        have l3 : ∀ K : Int → Prop, K x → load1 (.int .i64) v w8 K := fun K hk => load_int hcv hk
        repeat' first
          | (with_reducible exact fin)
          | (with_reducible apply And.intro)
          | (with_reducible refine l1 _ ?_)
          | (with_reducible refine l2 _ ?_)
          | (with_reducible refine l3 _ ?_)
          | (with_reducible refine load_int (by assumption) ?_)
          | (with_reducible refine hpl _ ?_; intro _ _)
      · rw [if_neg hpos]
        refine bif_t (by simp) ?_
        exact ins_end hk0 (by omega) (by omega) h7 hr0 (by omega) (fun _ => hpos) (by omega)
    · exact ins_end hk0 (by omega) (by omega) h hr0 (by omega) (fun hh => absurd hh (by omega)) (by omega)
  · rw [impl_InsertPerm.A5_0_s]
    have e : k.toNat = L.length := by omega
    rw [e, List.take_length] at oa
    rw [e] at ob
    refine ⟨a, b, rsa, rsb, ?_⟩
    rw [InsertPermV, InsertPermV1, InsertPermV2, if_pos hP, if_pos hP, decide_eq_true hP]
    exact ⟨rfl, oa, ob, ab, hb4⟩
theorem InsertPermV_len (L : List Int) : (InsertPermV L).length < 2^38 ∧ tot (InsertPermV L) < 2^38 := by
  by_cases h : IsP L
  · exact insP_tot h
  · rw [InsertPermV, if_neg h]; exact ⟨by simp, by simp [tot]⟩
theorem insQ_tot (L : List Int) : ∀ m, tot (insQ L m) = m
  | 0 => rfl
  | m + 1 => by
    have ih := insQ_tot L m
    rw [insQ, addAt]
    split
    · rename_i hlt
      have h1 : insQ L m = (insQ L m).take (tabRow (insP (L.take m)) (L.getD m 0)) ++ (insQ L m).getD (tabRow (insP (L.take m)) (L.getD m 0)) [] :: (insQ L m).drop (tabRow (insP (L.take m)) (L.getD m 0) + 1) := by rw [getD_SS hlt]; simp
      rw [List.set_eq_take_append_cons_drop, if_pos hlt, tot_append, tot_cons, List.length_append, List.length_singleton]
      rw [h1, tot_append, tot_cons] at ih
      omega
    · rw [tot_append, ih]; simp [tot]
theorem InsertPermV_len1 (L : List Int) : (InsertPermV1 L).length < 2^38 ∧ tot (InsertPermV1 L) < 2^38 := by
  by_cases h : IsP L
  · rw [InsertPermV1, if_pos h]
    have h1 := (insQ_rows L L.length).2
    have h2 := insQ_tot L L.length
    have := h.1
    exact ⟨by omega, by omega⟩
  · rw [InsertPermV1, if_neg h]; exact ⟨by simp, by simp [tot]⟩
end Go.Proofs.Ytdchjhhpbdekeaa

/- What each function does, step by step, written by a program (Gen.lean); each equation is checked by the kernel. -/
namespace Go.Proofs.Ytdchjhhpbdekeaa
open Go
set_option linter.unusedVariables false
set_option maxRecDepth 100000
namespace impl_PermOfTableaux
@[reducible] def cfg : Cfg := ⟨131, [(6, [0, 1, 6, 35, 36, 37]), (22, [0, 1, 9, 10, 11, 13, 14]), (19, [0, 1, 9, 10, 11, 13]), (12, [0, 1, 9, 10])], [(1, [0, 1, 6, 35, 36, 37]), (0, [0, 1, 6]), (7, [0, 1, 9, 10, 11, 13, 14]), (6, [0, 1, 9, 10, 11, 13, 14]), (5, [0, 1, 9, 10, 11, 13]), (4, [0, 1, 9, 10, 13]), (3, [0, 1, 9, 10]), (2, [9])], [(18, [0, 1, 9, 10, 11, 13])], [4, 5], [], [101, 107, 112, 15, 21, 124, 76, 137, 28, 115, 91, 81, 130], [138, 140, 82, 6, 86, 85, 132]⟩
def q14 (pr : Prims) (R : Ending → World → Prop) : Exit → Env → World → Prop := fun ex e w => normQ ex (fun e w => contE pr cfg (sub (codeOf Try.f50) [1, 1, 1, 1, 1]) (fun e w => wpC pr PP cfg (DD pr) (sub (codeOf Try.f50) [1, 1, 1, 1, 1]) (retQ Try.f50.results.toList R) e w) e w) (retQ Try.f50.results.toList R) e w
def q15 (pr : Prims) (R : Ending → World → Prop) : Exit → Env → World → Prop := fun ex e w => blockQ ex 0 (q14 pr R) e w
def q20 (pr : Prims) (R : Ending → World → Prop) : Exit → Env → World → Prop := fun ex e w => normQ ex (fun e w => contE pr cfg (sub (codeOf Try.f50) [1, 1, 1, 1, 1, 1, 1]) (fun e w => wpC pr PP cfg (DD pr) (sub (codeOf Try.f50) [1, 1, 1, 1, 1, 1, 1]) (retQ Try.f50.results.toList R) e w) e w) (retQ Try.f50.results.toList R) e w
def q24 (pr : Prims) (R : Ending → World → Prop) : Exit → Env → World → Prop := fun ex e w => blockQ ex 2 (q20 pr R) e w
def q26 (pr : Prims) (k : Env → World → Prop) (Q : Exit → Env → World → Prop) : Exit → Env → World → Prop := fun ex e w => normQ ex (fun e w => contE pr cfg (sub (codeOf Try.f50) [1, 1, 1, 1, 1, 1, 0, 1, 0, 0, 1, 1]) (fun e w => wpC pr PP cfg (DD pr) (sub (codeOf Try.f50) [1, 1, 1, 1, 1, 1, 0, 1, 0, 0, 1, 1]) (fun ex e w => normQ ex (fun e' w' => k (Env.restr e' (lookN cfg.loops (keyOf (sub (codeOf Try.f50) [1, 1, 1, 1, 1, 1, 0, 1, 0, 0])))) w') Q e w) e w) e w) (fun ex e w => normQ ex (fun e' w' => k (Env.restr e' (lookN cfg.loops (keyOf (sub (codeOf Try.f50) [1, 1, 1, 1, 1, 1, 0, 1, 0, 0])))) w') Q e w) e w
def q27 (pr : Prims) (k : Env → World → Prop) (Q : Exit → Env → World → Prop) : Exit → Env → World → Prop := fun ex e w => blockQ ex 3 (q26 pr k Q) e w
def q36 (pr : Prims) (k : Env → World → Prop) (Q : Exit → Env → World → Prop) : Exit → Env → World → Prop := fun ex e w => normQ ex (fun e w => contE pr cfg (sub (codeOf Try.f50) [1, 1, 1, 1, 1, 1, 0, 1, 0, 0, 1, 0, 0, 1, 1, 1, 1]) (fun e w => wpC pr PP cfg (DD pr) (sub (codeOf Try.f50) [1, 1, 1, 1, 1, 1, 0, 1, 0, 0, 1, 0, 0, 1, 1, 1, 1]) (q27 pr k Q) e w) e w) (q27 pr k Q) e w
def q48 (pr : Prims) (k : Env → World → Prop) (Q : Exit → Env → World → Prop) : Exit → Env → World → Prop := fun ex e w => normQ ex (fun e w => contE pr cfg (sub (codeOf Try.f50) [1, 1, 1, 1, 1, 1, 0, 1, 0, 0, 1, 0, 0, 1, 1, 1, 1, 1]) (fun e w => wpC pr PP cfg (DD pr) (sub (codeOf Try.f50) [1, 1, 1, 1, 1, 1, 0, 1, 0, 0, 1, 0, 0, 1, 1, 1, 1, 1]) (q27 pr k Q) e w) e w) (q27 pr k Q) e w
def q49 (pr : Prims) (k : Env → World → Prop) (Q : Exit → Env → World → Prop) : Exit → Env → World → Prop := fun ex e w => blockQ ex 4 (q48 pr k Q) e w
def q50 (pr : Prims) (k : Env → World → Prop) (Q : Exit → Env → World → Prop) : Exit → Env → World → Prop := fun ex e w => normQ ex (fun e w => contE pr cfg (sub (codeOf Try.f50) [1, 1, 1, 1, 1, 1, 0, 1, 0, 0, 1, 0, 0, 1, 1, 1, 1, 0, 1, 0, 0, 1, 1]) (fun e w => wpC pr PP cfg (DD pr) (sub (codeOf Try.f50) [1, 1, 1, 1, 1, 1, 0, 1, 0, 0, 1, 0, 0, 1, 1, 1, 1, 0, 1, 0, 0, 1, 1]) (fun ex e w => normQ ex (fun e' w' => k (Env.restr e' (lookN cfg.loops (keyOf (sub (codeOf Try.f50) [1, 1, 1, 1, 1, 1, 0, 1, 0, 0, 1, 0, 0, 1, 1, 1, 1, 0, 1, 0, 0])))) w') Q e w) e w) e w) (fun ex e w => normQ ex (fun e' w' => k (Env.restr e' (lookN cfg.loops (keyOf (sub (codeOf Try.f50) [1, 1, 1, 1, 1, 1, 0, 1, 0, 0, 1, 0, 0, 1, 1, 1, 1, 0, 1, 0, 0])))) w') Q e w) e w
def q51 (pr : Prims) (k : Env → World → Prop) (Q : Exit → Env → World → Prop) : Exit → Env → World → Prop := fun ex e w => blockQ ex 5 (q50 pr k Q) e w
def q54 (pr : Prims) (k : Env → World → Prop) (Q : Exit → Env → World → Prop) : Exit → Env → World → Prop := fun ex e w => normQ ex (fun e w => contE pr cfg (sub (codeOf Try.f50) [1, 1, 1, 1, 1, 1, 0, 1, 0, 0, 1, 0, 0, 1, 1, 1, 1, 0, 1, 0, 0, 1, 0, 0, 1, 1]) (fun e w => wpC pr PP cfg (DD pr) (sub (codeOf Try.f50) [1, 1, 1, 1, 1, 1, 0, 1, 0, 0, 1, 0, 0, 1, 1, 1, 1, 0, 1, 0, 0, 1, 0, 0, 1, 1]) (q51 pr k Q) e w) e w) (q51 pr k Q) e w
def q55 (pr : Prims) (k : Env → World → Prop) (Q : Exit → Env → World → Prop) : Exit → Env → World → Prop := fun ex e w => blockQ ex 6 (q54 pr k Q) e w
def emb6 (a_0 : Sl) (b_1 : Sl) (n_6 : Int) (t35 : Sl) (t36 : Int) (t37 : Int) : Env := [(0, Sl.v a_0), (1, Sl.v b_1), (6, vI n_6), (35, Sl.v t35), (36, vI t36), (37, vI t37)]
def x0 (a_0 : Sl) (b_1 : Sl) (n_6 : Int) : Env := [(0, Sl.v a_0), (1, Sl.v b_1), (6, vI n_6)]
def emb12 (a_0 : Sl) (b_1 : Sl) (out_9 : Sl) (i_10 : Addr) : Env := [(0, Sl.v a_0), (1, Sl.v b_1), (9, Sl.v out_9), (10, .pointer (some i_10))]
def j18 (a_0 : Sl) (b_1 : Sl) (out_9 : Sl) (i_10 : Addr) (row_11 : Int) (v_13 : Int) : Env := [(0, Sl.v a_0), (1, Sl.v b_1), (9, Sl.v out_9), (10, .pointer (some i_10)), (11, vI row_11), (13, vI v_13)]
def emb19 (a_0 : Sl) (b_1 : Sl) (out_9 : Sl) (i_10 : Addr) (row_11 : Int) (v_13 : Int) : Env := [(0, Sl.v a_0), (1, Sl.v b_1), (9, Sl.v out_9), (10, .pointer (some i_10)), (11, vI row_11), (13, vI v_13)]
def emb22 (a_0 : Sl) (b_1 : Sl) (out_9 : Sl) (i_10 : Addr) (row_11 : Int) (v_13 : Int) (at_14 : Int) : Env := [(0, Sl.v a_0), (1, Sl.v b_1), (9, Sl.v out_9), (10, .pointer (some i_10)), (11, vI row_11), (13, vI v_13), (14, vI at_14)]
def x6 (a_0 : Sl) (b_1 : Sl) (out_9 : Sl) (i_10 : Addr) (row_11 : Int) (v_13 : Int) (at_14 : Int) : Env := [(0, Sl.v a_0), (1, Sl.v b_1), (9, Sl.v out_9), (10, .pointer (some i_10)), (11, vI row_11), (13, vI v_13), (14, vI at_14)]
def x4 (a_0 : Sl) (b_1 : Sl) (out_9 : Sl) (i_10 : Addr) (v_13 : Int) : Env := [(0, Sl.v a_0), (1, Sl.v b_1), (9, Sl.v out_9), (10, .pointer (some i_10)), (13, vI v_13)]
def x2 (out_9 : Sl) : Env := [(9, Sl.v out_9)]
def S6 (pr : Prims) (Q : Exit → Env → World → Prop) : (Env → World → Prop) → Env → World → Prop := fun k e w => wpC pr PP cfg (DD pr) (sub (codeOf Try.f50) [1, 1, 1, 1, 0, 1, 0, 0]) (fun ex e w => normQ ex (fun e' w' => k (Env.restr e' (lookN cfg.loops (keyOf (sub (codeOf Try.f50) [1, 1, 1, 1, 0, 1, 0, 0])))) w') Q e w) e w
def S22 (pr : Prims) (Q : Exit → Env → World → Prop) : (Env → World → Prop) → Env → World → Prop := fun k e w => wpC pr PP cfg (DD pr) (sub (codeOf Try.f50) [1, 1, 1, 1, 1, 1, 0, 1, 0, 0, 1, 0, 0, 1, 1, 1, 1, 0, 1, 0, 0, 1, 0, 0, 1, 0, 0, 0]) (fun ex e w => normQ ex (fun e' w' => k (Env.restr e' (lookN cfg.loops (keyOf (sub (codeOf Try.f50) [1, 1, 1, 1, 1, 1, 0, 1, 0, 0, 1, 0, 0, 1, 1, 1, 1, 0, 1, 0, 0, 1, 0, 0, 1, 0, 0, 0])))) w') Q e w) e w
def S19 (pr : Prims) (Q : Exit → Env → World → Prop) : (Env → World → Prop) → Env → World → Prop := fun k e w => wpC pr PP cfg (DD pr) (sub (codeOf Try.f50) [1, 1, 1, 1, 1, 1, 0, 1, 0, 0, 1, 0, 0, 1, 1, 1, 1, 0, 1, 0, 0]) (fun ex e w => normQ ex (fun e' w' => k (Env.restr e' (lookN cfg.loops (keyOf (sub (codeOf Try.f50) [1, 1, 1, 1, 1, 1, 0, 1, 0, 0, 1, 0, 0, 1, 1, 1, 1, 0, 1, 0, 0])))) w') Q e w) e w
def S12 (pr : Prims) (Q : Exit → Env → World → Prop) : (Env → World → Prop) → Env → World → Prop := fun k e w => wpC pr PP cfg (DD pr) (sub (codeOf Try.f50) [1, 1, 1, 1, 1, 1, 0, 1, 0, 0]) (fun ex e w => normQ ex (fun e' w' => k (Env.restr e' (lookN cfg.loops (keyOf (sub (codeOf Try.f50) [1, 1, 1, 1, 1, 1, 0, 1, 0, 0])))) w') Q e w) e w
def B6 (pr : Prims) (a_0 : Sl) (b_1 : Sl) (n_6 : Int) (t35 : Sl) (t36 : Int) (t37 : Int) (w : World) (k : Env → World → Prop) (Q : Exit → Env → World → Prop) : Prop :=
  S6 pr Q k (emb6 a_0 b_1 n_6 t35 t36 t37) w
def L6 (pr : Prims) (a_0 : Sl) (b_1 : Sl) (n_6 : Int) (t35 : Sl) (t36 : Int) (t37 : Int) (w : World) (Q : Exit → Env → World → Prop) : Prop :=
  pr.loop (S6 pr Q) (emb6 a_0 b_1 n_6 t35 t36 t37) w
def B22 (pr : Prims) (a_0 : Sl) (b_1 : Sl) (out_9 : Sl) (i_10 : Addr) (row_11 : Int) (v_13 : Int) (at_14 : Int) (w : World) (k : Env → World → Prop) (Q : Exit → Env → World → Prop) : Prop :=
  S22 pr Q k (emb22 a_0 b_1 out_9 i_10 row_11 v_13 at_14) w
def L22 (pr : Prims) (a_0 : Sl) (b_1 : Sl) (out_9 : Sl) (i_10 : Addr) (row_11 : Int) (v_13 : Int) (at_14 : Int) (w : World) (Q : Exit → Env → World → Prop) : Prop :=
  pr.loop (S22 pr Q) (emb22 a_0 b_1 out_9 i_10 row_11 v_13 at_14) w
def B19 (pr : Prims) (a_0 : Sl) (b_1 : Sl) (out_9 : Sl) (i_10 : Addr) (row_11 : Int) (v_13 : Int) (w : World) (k : Env → World → Prop) (Q : Exit → Env → World → Prop) : Prop :=
  S19 pr Q k (emb19 a_0 b_1 out_9 i_10 row_11 v_13) w
def L19 (pr : Prims) (a_0 : Sl) (b_1 : Sl) (out_9 : Sl) (i_10 : Addr) (row_11 : Int) (v_13 : Int) (w : World) (Q : Exit → Env → World → Prop) : Prop :=
  pr.loop (S19 pr Q) (emb19 a_0 b_1 out_9 i_10 row_11 v_13) w
def J18 (pr : Prims) (a_0 : Sl) (b_1 : Sl) (out_9 : Sl) (i_10 : Addr) (row_11 : Int) (v_13 : Int) (w : World) (k : Env → World → Prop) (Q : Exit → Env → World → Prop) : Prop :=
  pr.seg (fun e w => wpC pr PP cfg (DD pr) (sub (codeOf Try.f50) [1, 1, 1, 1, 1, 1, 0, 1, 0, 0, 1, 0, 0, 1, 1, 1, 1]) (q27 pr k Q) e w) (j18 a_0 b_1 out_9 i_10 row_11 v_13) w
def B12 (pr : Prims) (a_0 : Sl) (b_1 : Sl) (out_9 : Sl) (i_10 : Addr) (w : World) (k : Env → World → Prop) (Q : Exit → Env → World → Prop) : Prop :=
  S12 pr Q k (emb12 a_0 b_1 out_9 i_10) w
def L12 (pr : Prims) (a_0 : Sl) (b_1 : Sl) (out_9 : Sl) (i_10 : Addr) (w : World) (Q : Exit → Env → World → Prop) : Prop :=
  pr.loop (S12 pr Q) (emb12 a_0 b_1 out_9 i_10) w
def E (pr : Prims) (a_0 : Sl) (b_1 : Sl) (w : World) (R : Ending → World → Prop) : Prop :=
  wpC pr PP cfg (DD pr) (codeOf Try.f50) (retQ Try.f50.results.toList R) (argE 0 [Sl.v a_0, Sl.v b_1]) w
theorem B6_eq (pr : Prims) (a_0 : Sl) (b_1 : Sl) (n_6 : Int) (t35 : Sl) (t36 : Int) (t37 : Int) (w : World) (k : Env → World → Prop) (Q : Exit → Env → World → Prop) : B6 pr a_0 b_1 n_6 t35 t36 t37 w k Q = (
  bif decide (t37 < t36) then (
  pr.idxK 1 t35 t37 fun (a16 : Addr) =>
  pr.load1 .sl a16 w fun (ξ17 : Sl) =>
  k (emb6 a_0 b_1 (w64 (n_6 + (ξ17.n : Int))) t35 t36 (w64 (t37 + 1))) w)
  else (
  Q (.exit 0) (x0 a_0 b_1 n_6) w)) := by kernel_rfl
theorem B6_s (a_0 : Sl) (b_1 : Sl) (n_6 : Int) (t35 : Sl) (t36 : Int) (t37 : Int) (w : World) (k : Env → World → Prop) (Q : Exit → Env → World → Prop) : B6 std a_0 b_1 n_6 t35 t36 t37 w k Q = (
  bif decide (t37 < t36) then (
  idxK 1 t35 t37 fun (a16 : Addr) =>
  load1 .sl a16 w fun (ξ17 : Sl) =>
  k (emb6 a_0 b_1 (w64 (n_6 + (ξ17.n : Int))) t35 t36 (w64 (t37 + 1))) w)
  else (
  Q (.exit 0) (x0 a_0 b_1 n_6) w)) := B6_eq std a_0 b_1 n_6 t35 t36 t37 w k Q
theorem L6_rule (a_0 : Sl) (b_1 : Sl) (n_6 : Int) (t35 : Sl) (t36 : Int) (t37 : Int) (w : World) (Q : Exit → Env → World → Prop) (I : Int → Int → World → Prop) (μ : Int → Int → World → Nat) (h0 : I n_6 t37 w)
    (h : ∀ (n_6 : Int) (t37 : Int) (w' : World), I n_6 t37 w' → B6 std a_0 b_1 n_6 t35 t36 t37 w' (fun e2 w2 => ∃ n_6_n t37_n, e2 = emb6 a_0 b_1 n_6_n t35 t36 t37_n ∧ I n_6_n t37_n w2 ∧ μ n_6_n t37_n w2 < μ n_6 t37 w') Q) :
    L6 std a_0 b_1 n_6 t35 t36 t37 w Q := by
  unfold L6
  refine LoopE.intro (σ := Int × Int) (step := S6 std Q) (fun s => emb6 a_0 b_1 s.1 t35 t36 s.2) (fun s w => I s.1 s.2 w) (fun s w => μ s.1 s.2 w) (n_6, t37) rfl h0 ?_
  intro s w' hI
  have h1 := h s.1 s.2 w' hI
  unfold B6 at h1
  simp only [Prod.exists]
  exact h1
theorem B22_eq (pr : Prims) (a_0 : Sl) (b_1 : Sl) (out_9 : Sl) (i_10 : Addr) (row_11 : Int) (v_13 : Int) (at_14 : Int) (w : World) (k : Env → World → Prop) (Q : Exit → Env → World → Prop) : B22 pr a_0 b_1 out_9 i_10 row_11 v_13 at_14 w k Q = (
  pr.idxK 1 a_0 row_11 fun (a56 : Addr) =>
  pr.load1 .sl a56 w fun (ξ57 : Sl) =>
  pr.idxK 1 ξ57 at_14 fun (a58 : Addr) =>
  pr.load1 (.int .i64) a58 w fun (ξ59 : Int) =>
  bif decide (ξ59 > v_13) then (
  k (emb22 a_0 b_1 out_9 i_10 row_11 v_13 (w64 (at_14 - 1))) w)
  else (
  Q (.exit 6) (x6 a_0 b_1 out_9 i_10 row_11 v_13 at_14) w)) := by kernel_rfl
theorem B22_s (a_0 : Sl) (b_1 : Sl) (out_9 : Sl) (i_10 : Addr) (row_11 : Int) (v_13 : Int) (at_14 : Int) (w : World) (k : Env → World → Prop) (Q : Exit → Env → World → Prop) : B22 std a_0 b_1 out_9 i_10 row_11 v_13 at_14 w k Q = (
  idxK 1 a_0 row_11 fun (a56 : Addr) =>
  load1 .sl a56 w fun (ξ57 : Sl) =>
  idxK 1 ξ57 at_14 fun (a58 : Addr) =>
  load1 (.int .i64) a58 w fun (ξ59 : Int) =>
  bif decide (ξ59 > v_13) then (
  k (emb22 a_0 b_1 out_9 i_10 row_11 v_13 (w64 (at_14 - 1))) w)
  else (
  Q (.exit 6) (x6 a_0 b_1 out_9 i_10 row_11 v_13 at_14) w)) := B22_eq std a_0 b_1 out_9 i_10 row_11 v_13 at_14 w k Q
theorem L22_rule (a_0 : Sl) (b_1 : Sl) (out_9 : Sl) (i_10 : Addr) (row_11 : Int) (v_13 : Int) (at_14 : Int) (w : World) (Q : Exit → Env → World → Prop) (I : Int → World → Prop) (μ : Int → World → Nat) (h0 : I at_14 w)
    (h : ∀ (at_14 : Int) (w' : World), I at_14 w' → B22 std a_0 b_1 out_9 i_10 row_11 v_13 at_14 w' (fun e2 w2 => ∃ at_14_n, e2 = emb22 a_0 b_1 out_9 i_10 row_11 v_13 at_14_n ∧ I at_14_n w2 ∧ μ at_14_n w2 < μ at_14 w') Q) :
    L22 std a_0 b_1 out_9 i_10 row_11 v_13 at_14 w Q := by
  unfold L22
  refine LoopE.intro (σ := Int) (step := S22 std Q) (fun s => emb22 a_0 b_1 out_9 i_10 row_11 v_13 s) (fun s w => I s w) (fun s w => μ s w) at_14 rfl h0 ?_
  intro s w' hI
  have h1 := h s w' hI
  unfold B22 at h1
  exact h1
theorem A22_6_eq (pr : Prims) (a_0 : Sl) (b_1 : Sl) (out_9 : Sl) (i_10 : Addr) (row_11 : Int) (v_13 : Int) (at_14 : Int) (w : World) (k : Env → World → Prop) (Q : Exit → Env → World → Prop) : (q55 pr k Q) (.exit 6) (x6 a_0 b_1 out_9 i_10 row_11 v_13 at_14) w = (
  pr.drewAll w fun ω60 =>
  pr.idxK 1 a_0 row_11 fun (a61 : Addr) =>
  pr.idxK 1 a_0 row_11 fun (a62 : Addr) =>
  (pr.load1 .sl a61 ω60 fun (ξ63 : Sl) =>
  pr.load1 .sl a62 ω60 fun (ξ64 : Sl) =>
  pr.idxK 1 ξ64 at_14 fun (a65 : Addr) =>
  pr.load1 (.int .i64) a65 ω60 fun (ξ66 : Int) =>
  pr.idxK 1 ξ63 at_14 fun (a67 : Addr) =>
  pr.storeC a67 (vI v_13) ω60 fun ω68 =>
  k (emb19 a_0 b_1 out_9 i_10 (w64 (row_11 - 1)) ξ66) ω68) ∧
  (pr.load1 .sl a62 ω60 fun (ξ69 : Sl) =>
  pr.idxK 1 ξ69 at_14 fun (a70 : Addr) =>
  (pr.load1 .sl a61 ω60 fun (ξ71 : Sl) =>
  pr.load1 (.int .i64) a70 ω60 fun (ξ72 : Int) =>
  pr.idxK 1 ξ71 at_14 fun (a73 : Addr) =>
  pr.storeC a73 (vI v_13) ω60 fun ω74 =>
  k (emb19 a_0 b_1 out_9 i_10 (w64 (row_11 - 1)) ξ72) ω74) ∧
  (pr.load1 (.int .i64) a70 ω60 fun (ξ75 : Int) =>
  pr.load1 .sl a61 ω60 fun (ξ76 : Sl) =>
  pr.idxK 1 ξ76 at_14 fun (a77 : Addr) =>
  pr.storeC a77 (vI v_13) ω60 fun ω78 =>
  k (emb19 a_0 b_1 out_9 i_10 (w64 (row_11 - 1)) ξ75) ω78))) := by kernel_rfl
theorem A22_6_s (a_0 : Sl) (b_1 : Sl) (out_9 : Sl) (i_10 : Addr) (row_11 : Int) (v_13 : Int) (at_14 : Int) (w : World) (k : Env → World → Prop) (Q : Exit → Env → World → Prop) : (q55 std k Q) (.exit 6) (x6 a_0 b_1 out_9 i_10 row_11 v_13 at_14) w = (
  drewAll w fun ω60 =>
  idxK 1 a_0 row_11 fun (a61 : Addr) =>
  idxK 1 a_0 row_11 fun (a62 : Addr) =>
  (load1 .sl a61 ω60 fun (ξ63 : Sl) =>
  load1 .sl a62 ω60 fun (ξ64 : Sl) =>
  idxK 1 ξ64 at_14 fun (a65 : Addr) =>
  load1 (.int .i64) a65 ω60 fun (ξ66 : Int) =>
  idxK 1 ξ63 at_14 fun (a67 : Addr) =>
  storeC a67 (vI v_13) ω60 fun ω68 =>
  k (emb19 a_0 b_1 out_9 i_10 (w64 (row_11 - 1)) ξ66) ω68) ∧
  (load1 .sl a62 ω60 fun (ξ69 : Sl) =>
  idxK 1 ξ69 at_14 fun (a70 : Addr) =>
  (load1 .sl a61 ω60 fun (ξ71 : Sl) =>
  load1 (.int .i64) a70 ω60 fun (ξ72 : Int) =>
  idxK 1 ξ71 at_14 fun (a73 : Addr) =>
  storeC a73 (vI v_13) ω60 fun ω74 =>
  k (emb19 a_0 b_1 out_9 i_10 (w64 (row_11 - 1)) ξ72) ω74) ∧
  (load1 (.int .i64) a70 ω60 fun (ξ75 : Int) =>
  load1 .sl a61 ω60 fun (ξ76 : Sl) =>
  idxK 1 ξ76 at_14 fun (a77 : Addr) =>
  storeC a77 (vI v_13) ω60 fun ω78 =>
  k (emb19 a_0 b_1 out_9 i_10 (w64 (row_11 - 1)) ξ75) ω78))) := A22_6_eq std a_0 b_1 out_9 i_10 row_11 v_13 at_14 w k Q
theorem B19_eq (pr : Prims) (a_0 : Sl) (b_1 : Sl) (out_9 : Sl) (i_10 : Addr) (row_11 : Int) (v_13 : Int) (w : World) (k : Env → World → Prop) (Q : Exit → Env → World → Prop) : B19 pr a_0 b_1 out_9 i_10 row_11 v_13 w k Q = (
  bif decide (row_11 ≥ 0) then (
  pr.idxK 1 a_0 row_11 fun (a52 : Addr) =>
  pr.load1 .sl a52 w fun (ξ53 : Sl) =>
  L22 pr a_0 b_1 out_9 i_10 row_11 v_13 (w64 ((ξ53.n : Int) - 1)) w (q55 pr k Q))
  else (
  Q (.exit 4) (x4 a_0 b_1 out_9 i_10 v_13) w)) := by kernel_rfl
theorem B19_s (a_0 : Sl) (b_1 : Sl) (out_9 : Sl) (i_10 : Addr) (row_11 : Int) (v_13 : Int) (w : World) (k : Env → World → Prop) (Q : Exit → Env → World → Prop) : B19 std a_0 b_1 out_9 i_10 row_11 v_13 w k Q = (
  bif decide (row_11 ≥ 0) then (
  idxK 1 a_0 row_11 fun (a52 : Addr) =>
  load1 .sl a52 w fun (ξ53 : Sl) =>
  L22 std a_0 b_1 out_9 i_10 row_11 v_13 (w64 ((ξ53.n : Int) - 1)) w (q55 std k Q))
  else (
  Q (.exit 4) (x4 a_0 b_1 out_9 i_10 v_13) w)) := B19_eq std a_0 b_1 out_9 i_10 row_11 v_13 w k Q
theorem L19_rule (a_0 : Sl) (b_1 : Sl) (out_9 : Sl) (i_10 : Addr) (row_11 : Int) (v_13 : Int) (w : World) (Q : Exit → Env → World → Prop) (I : Int → Int → World → Prop) (μ : Int → Int → World → Nat) (h0 : I row_11 v_13 w)
    (h : ∀ (row_11 : Int) (v_13 : Int) (w' : World), I row_11 v_13 w' → B19 std a_0 b_1 out_9 i_10 row_11 v_13 w' (fun e2 w2 => ∃ row_11_n v_13_n, e2 = emb19 a_0 b_1 out_9 i_10 row_11_n v_13_n ∧ I row_11_n v_13_n w2 ∧ μ row_11_n v_13_n w2 < μ row_11 v_13 w') Q) :
    L19 std a_0 b_1 out_9 i_10 row_11 v_13 w Q := by
  unfold L19
  refine LoopE.intro (σ := Int × Int) (step := S19 std Q) (fun s => emb19 a_0 b_1 out_9 i_10 s.1 s.2) (fun s w => I s.1 s.2 w) (fun s w => μ s.1 s.2 w) (row_11, v_13) rfl h0 ?_
  intro s w' hI
  have h1 := h s.1 s.2 w' hI
  unfold B19 at h1
  simp only [Prod.exists]
  exact h1
theorem A19_4_eq (pr : Prims) (a_0 : Sl) (b_1 : Sl) (out_9 : Sl) (i_10 : Addr) (v_13 : Int) (w : World) (k : Env → World → Prop) (Q : Exit → Env → World → Prop) : (q49 pr k Q) (.exit 4) (x4 a_0 b_1 out_9 i_10 v_13) w = (
  pr.load1 (.int .i64) i_10 w fun (ξ79 : Int) =>
  pr.idxK 1 out_9 (w64 (ξ79 - 1)) fun (a80 : Addr) =>
  pr.storeC a80 (vI v_13) w fun ω81 =>
  pr.load1 (.int .i64) i_10 ω81 fun (ξ82 : Int) =>
  pr.newK T_int #[vI 0] ω81 fun (a83 : Addr) ω84 =>
  pr.storeC a83 (vI ξ82) ω84 fun ω85 =>
  pr.load1 (.int .i64) a83 ω85 fun (ξ86 : Int) =>
  pr.storeC a83 (vI (w64 (ξ86 - 1))) ω85 fun ω87 =>
  k (emb12 a_0 b_1 out_9 a83) ω87) := by kernel_rfl
theorem A19_4_s (a_0 : Sl) (b_1 : Sl) (out_9 : Sl) (i_10 : Addr) (v_13 : Int) (w : World) (k : Env → World → Prop) (Q : Exit → Env → World → Prop) : (q49 std k Q) (.exit 4) (x4 a_0 b_1 out_9 i_10 v_13) w = (
  load1 (.int .i64) i_10 w fun (ξ79 : Int) =>
  idxK 1 out_9 (w64 (ξ79 - 1)) fun (a80 : Addr) =>
  storeC a80 (vI v_13) w fun ω81 =>
  load1 (.int .i64) i_10 ω81 fun (ξ82 : Int) =>
  newK T_int #[vI 0] ω81 fun (a83 : Addr) ω84 =>
  storeC a83 (vI ξ82) ω84 fun ω85 =>
  load1 (.int .i64) a83 ω85 fun (ξ86 : Int) =>
  storeC a83 (vI (w64 (ξ86 - 1))) ω85 fun ω87 =>
  k (emb12 a_0 b_1 out_9 a83) ω87) := A19_4_eq std a_0 b_1 out_9 i_10 v_13 w k Q
theorem A19_6_eq (pr : Prims) (a_0 : Sl) (b_1 : Sl) (out_9 : Sl) (i_10 : Addr) (row_11 : Int) (v_13 : Int) (at_14 : Int) (w : World) (k : Env → World → Prop) (Q : Exit → Env → World → Prop) : (q49 pr k Q) (.exit 6) (x6 a_0 b_1 out_9 i_10 row_11 v_13 at_14) w = (
  Q (.exit 6) (x6 a_0 b_1 out_9 i_10 row_11 v_13 at_14) w) := by kernel_rfl
theorem A19_6_s (a_0 : Sl) (b_1 : Sl) (out_9 : Sl) (i_10 : Addr) (row_11 : Int) (v_13 : Int) (at_14 : Int) (w : World) (k : Env → World → Prop) (Q : Exit → Env → World → Prop) : (q49 std k Q) (.exit 6) (x6 a_0 b_1 out_9 i_10 row_11 v_13 at_14) w = (
  Q (.exit 6) (x6 a_0 b_1 out_9 i_10 row_11 v_13 at_14) w) := A19_6_eq std a_0 b_1 out_9 i_10 row_11 v_13 at_14 w k Q
theorem J18_gen (pr : Prims) (a_0 : Sl) (b_1 : Sl) (out_9 : Sl) (i_10 : Addr) (row_11 : Int) (v_13 : Int) (w : World) (k : Env → World → Prop) (Q : Exit → Env → World → Prop) : wpC pr PP cfg (DD pr) (sub (codeOf Try.f50) [1, 1, 1, 1, 1, 1, 0, 1, 0, 0, 1, 0, 0, 1, 1, 1, 1]) (q27 pr k Q) (j18 a_0 b_1 out_9 i_10 row_11 v_13) w = (
  L19 pr a_0 b_1 out_9 i_10 (w64 (row_11 - 1)) v_13 w (q49 pr k Q)) := by kernel_rfl
theorem J18_s (a_0 : Sl) (b_1 : Sl) (out_9 : Sl) (i_10 : Addr) (row_11 : Int) (v_13 : Int) (w : World) (k : Env → World → Prop) (Q : Exit → Env → World → Prop) : J18 std a_0 b_1 out_9 i_10 row_11 v_13 w k Q = (
  L19 std a_0 b_1 out_9 i_10 (w64 (row_11 - 1)) v_13 w (q49 std k Q)) := J18_gen std a_0 b_1 out_9 i_10 row_11 v_13 w k Q
theorem B12_eq (pr : Prims) (a_0 : Sl) (b_1 : Sl) (out_9 : Sl) (i_10 : Addr) (w : World) (k : Env → World → Prop) (Q : Exit → Env → World → Prop) : B12 pr a_0 b_1 out_9 i_10 w k Q = (
  pr.load1 (.int .i64) i_10 w fun (ξ25 : Int) =>
  bif decide (ξ25 ≥ 1) then (
  pr.call1 (.int .i64) PP F.slices_IndexFunc_____int___int_ #[Sl.v b_1, (.func (.func F.impl_PermOfTableauxL1) #[] #[.pointer (some i_10)])] w fun (ρ28 : Int) ω29 =>
  pr.idxK 1 a_0 ρ28 fun (a30 : Addr) =>
  pr.load1 .sl a30 ω29 fun (ξ31 : Sl) =>
  pr.idxK 1 a_0 ρ28 fun (a32 : Addr) =>
  pr.load1 .sl a32 ω29 fun (ξ33 : Sl) =>
  pr.idxK 1 ξ33 (w64 ((ξ31.n : Int) - 1)) fun (a34 : Addr) =>
  pr.load1 (.int .i64) a34 ω29 fun (ξ35 : Int) =>
  pr.drewAll ω29 fun ω37 =>
  pr.idxK 1 a_0 ρ28 fun (a38 : Addr) =>
  pr.idxK 1 b_1 ρ28 fun (a39 : Addr) =>
  (pr.load1 .sl a38 ω37 fun (ξ40 : Sl) =>
  pr.cutK 1 ξ40 none (some (w64 ((ξ31.n : Int) - 1))) fun (s41 : Sl) =>
  pr.load1 .sl a39 ω37 fun (ξ42 : Sl) =>
  pr.cutK 1 ξ42 none (some (w64 ((ξ31.n : Int) - 1))) fun (s43 : Sl) =>
  pr.idxK 1 a_0 ρ28 fun (a44 : Addr) =>
  pr.storeC a44 (Sl.v s41) ω37 fun ω45 =>
  pr.idxK 1 b_1 ρ28 fun (a46 : Addr) =>
  pr.storeC a46 (Sl.v s43) ω45 fun ω47 =>
  J18 pr a_0 b_1 out_9 i_10 ρ28 ξ35 ω47 k Q) ∧
  (pr.load1 .sl a39 ω37 fun (ξ88 : Sl) =>
  pr.cutK 1 ξ88 none (some (w64 ((ξ31.n : Int) - 1))) fun (s89 : Sl) =>
  pr.load1 .sl a38 ω37 fun (ξ90 : Sl) =>
  pr.cutK 1 ξ90 none (some (w64 ((ξ31.n : Int) - 1))) fun (s91 : Sl) =>
  pr.idxK 1 a_0 ρ28 fun (a92 : Addr) =>
  pr.storeC a92 (Sl.v s91) ω37 fun ω93 =>
  pr.idxK 1 b_1 ρ28 fun (a94 : Addr) =>
  pr.storeC a94 (Sl.v s89) ω93 fun ω95 =>
  J18 pr a_0 b_1 out_9 i_10 ρ28 ξ35 ω95 k Q))
  else (
  Q (.exit 2) (x2 out_9) w)) := by kernel_rfl
theorem B12_s (a_0 : Sl) (b_1 : Sl) (out_9 : Sl) (i_10 : Addr) (w : World) (k : Env → World → Prop) (Q : Exit → Env → World → Prop) : B12 std a_0 b_1 out_9 i_10 w k Q = (
  load1 (.int .i64) i_10 w fun (ξ25 : Int) =>
  bif decide (ξ25 ≥ 1) then (
  call1 (.int .i64) PP F.slices_IndexFunc_____int___int_ #[Sl.v b_1, (.func (.func F.impl_PermOfTableauxL1) #[] #[.pointer (some i_10)])] w fun (ρ28 : Int) ω29 =>
  idxK 1 a_0 ρ28 fun (a30 : Addr) =>
  load1 .sl a30 ω29 fun (ξ31 : Sl) =>
  idxK 1 a_0 ρ28 fun (a32 : Addr) =>
  load1 .sl a32 ω29 fun (ξ33 : Sl) =>
  idxK 1 ξ33 (w64 ((ξ31.n : Int) - 1)) fun (a34 : Addr) =>
  load1 (.int .i64) a34 ω29 fun (ξ35 : Int) =>
  drewAll ω29 fun ω37 =>
  idxK 1 a_0 ρ28 fun (a38 : Addr) =>
  idxK 1 b_1 ρ28 fun (a39 : Addr) =>
  (load1 .sl a38 ω37 fun (ξ40 : Sl) =>
  cutK 1 ξ40 none (some (w64 ((ξ31.n : Int) - 1))) fun (s41 : Sl) =>
  load1 .sl a39 ω37 fun (ξ42 : Sl) =>
  cutK 1 ξ42 none (some (w64 ((ξ31.n : Int) - 1))) fun (s43 : Sl) =>
  idxK 1 a_0 ρ28 fun (a44 : Addr) =>
  storeC a44 (Sl.v s41) ω37 fun ω45 =>
  idxK 1 b_1 ρ28 fun (a46 : Addr) =>
  storeC a46 (Sl.v s43) ω45 fun ω47 =>
  J18 std a_0 b_1 out_9 i_10 ρ28 ξ35 ω47 k Q) ∧
  (load1 .sl a39 ω37 fun (ξ88 : Sl) =>
  cutK 1 ξ88 none (some (w64 ((ξ31.n : Int) - 1))) fun (s89 : Sl) =>
  load1 .sl a38 ω37 fun (ξ90 : Sl) =>
  cutK 1 ξ90 none (some (w64 ((ξ31.n : Int) - 1))) fun (s91 : Sl) =>
  idxK 1 a_0 ρ28 fun (a92 : Addr) =>
  storeC a92 (Sl.v s91) ω37 fun ω93 =>
  idxK 1 b_1 ρ28 fun (a94 : Addr) =>
  storeC a94 (Sl.v s89) ω93 fun ω95 =>
  J18 std a_0 b_1 out_9 i_10 ρ28 ξ35 ω95 k Q))
  else (
  Q (.exit 2) (x2 out_9) w)) := B12_eq std a_0 b_1 out_9 i_10 w k Q
theorem L12_rule (a_0 : Sl) (b_1 : Sl) (out_9 : Sl) (i_10 : Addr) (w : World) (Q : Exit → Env → World → Prop) (I : Addr → World → Prop) (μ : Addr → World → Nat) (h0 : I i_10 w)
    (h : ∀ (i_10 : Addr) (w' : World), I i_10 w' → B12 std a_0 b_1 out_9 i_10 w' (fun e2 w2 => ∃ i_10_n, e2 = emb12 a_0 b_1 out_9 i_10_n ∧ I i_10_n w2 ∧ μ i_10_n w2 < μ i_10 w') Q) :
    L12 std a_0 b_1 out_9 i_10 w Q := by
  unfold L12
  refine LoopE.intro (σ := Addr) (step := S12 std Q) (fun s => emb12 a_0 b_1 out_9 s) (fun s w => I s w) (fun s w => μ s w) i_10 rfl h0 ?_
  intro s w' hI
  have h1 := h s w' hI
  unfold B12 at h1
  exact h1
theorem A12_2_eq (pr : Prims) (out_9 : Sl) (w : World) (R : Ending → World → Prop) : (q24 pr R) (.exit 2) (x2 out_9) w = (
  R (.returned (.tuple #[Sl.v out_9, .bool true])) w) := by kernel_rfl
theorem A12_2_s (out_9 : Sl) (w : World) (R : Ending → World → Prop) : (q24 std R) (.exit 2) (x2 out_9) w = (
  R (.returned (.tuple #[Sl.v out_9, .bool true])) w) := A12_2_eq std out_9 w R
theorem A6_0_eq (pr : Prims) (a_0 : Sl) (b_1 : Sl) (n_6 : Int) (w : World) (R : Ending → World → Prop) : (q15 pr R) (.exit 0) (x0 a_0 b_1 n_6) w = (
  pr.sem1 .sl PP (Instr.makeSlice T_Sint (vI n_6) (vI n_6)) w fun (ρ18 : Sl) ω19 =>
  pr.newK T_int #[vI 0] ω19 fun (a21 : Addr) ω22 =>
  pr.storeC a21 (vI n_6) ω22 fun ω23 =>
  L12 pr a_0 b_1 ρ18 a21 ω23 (q24 pr R)) := by kernel_rfl
theorem A6_0_s (a_0 : Sl) (b_1 : Sl) (n_6 : Int) (w : World) (R : Ending → World → Prop) : (q15 std R) (.exit 0) (x0 a_0 b_1 n_6) w = (
  sem1 .sl PP (Instr.makeSlice T_Sint (vI n_6) (vI n_6)) w fun (ρ18 : Sl) ω19 =>
  newK T_int #[vI 0] ω19 fun (a21 : Addr) ω22 =>
  storeC a21 (vI n_6) ω22 fun ω23 =>
  L12 std a_0 b_1 ρ18 a21 ω23 (q24 std R)) := A6_0_eq std a_0 b_1 n_6 w R
theorem E_eq (pr : Prims) (a_0 : Sl) (b_1 : Sl) (w : World) (R : Ending → World → Prop) : E pr a_0 b_1 w R = (
  pr.call1 .bool PP F.impl_IsTableau #[Sl.v a_0] w fun (ρ0 : Bool) ω1 =>
  bif !ρ0 then (
  R (.returned (.tuple #[Sl.v Sl.nil, .bool false])) ω1)
  else (
  pr.call1 .bool PP F.impl_IsTableau #[Sl.v b_1] ω1 fun (ρ2 : Bool) ω3 =>
  bif !ρ2 then (
  R (.returned (.tuple #[Sl.v Sl.nil, .bool false])) ω3)
  else (
  pr.call1 .sl PP F.impl_form #[Sl.v a_0] ω3 fun (ρ4 : Sl) ω5 =>
  pr.call1 .sl PP F.impl_form #[Sl.v b_1] ω5 fun (ρ6 : Sl) ω7 =>
  pr.call1 .bool PP F.slices_Equal___int_int_ #[Sl.v ρ4, Sl.v ρ6] ω7 fun (ρ8 : Bool) ω9 =>
  bif !ρ8 then (
  R (.returned (.tuple #[Sl.v Sl.nil, .bool false])) ω9)
  else (
  pr.call1 .sl PP F.impl_copied #[Sl.v a_0] ω9 fun (ρ10 : Sl) ω11 =>
  pr.call1 .sl PP F.impl_copied #[Sl.v b_1] ω11 fun (ρ12 : Sl) ω13 =>
  L6 pr ρ10 ρ12 0 ρ10 (ρ10.n : Int) 0 ω13 (q15 pr R))))) := by kernel_rfl
theorem E_s (a_0 : Sl) (b_1 : Sl) (w : World) (R : Ending → World → Prop) : E std a_0 b_1 w R = (
  call1 .bool PP F.impl_IsTableau #[Sl.v a_0] w fun (ρ0 : Bool) ω1 =>
  bif !ρ0 then (
  R (.returned (.tuple #[Sl.v Sl.nil, .bool false])) ω1)
  else (
  call1 .bool PP F.impl_IsTableau #[Sl.v b_1] ω1 fun (ρ2 : Bool) ω3 =>
  bif !ρ2 then (
  R (.returned (.tuple #[Sl.v Sl.nil, .bool false])) ω3)
  else (
  call1 .sl PP F.impl_form #[Sl.v a_0] ω3 fun (ρ4 : Sl) ω5 =>
  call1 .sl PP F.impl_form #[Sl.v b_1] ω5 fun (ρ6 : Sl) ω7 =>
  call1 .bool PP F.slices_Equal___int_int_ #[Sl.v ρ4, Sl.v ρ6] ω7 fun (ρ8 : Bool) ω9 =>
  bif !ρ8 then (
  R (.returned (.tuple #[Sl.v Sl.nil, .bool false])) ω9)
  else (
  call1 .sl PP F.impl_copied #[Sl.v a_0] ω9 fun (ρ10 : Sl) ω11 =>
  call1 .sl PP F.impl_copied #[Sl.v b_1] ω11 fun (ρ12 : Sl) ω13 =>
  L6 std ρ10 ρ12 0 ρ10 (ρ10.n : Int) 0 ω13 (q15 std R))))) := E_eq std a_0 b_1 w R
theorem drawsOk : drawsOk PP cfg okD (codeOf Try.f50) = true := by kernel_rfl
theorem calls (a_0 : Sl) (b_1 : Sl) {w : World} {R : Ending → World → Prop} (h : E std a_0 b_1 w R) : Calls PP F.impl_PermOfTableaux #[Sl.v a_0, Sl.v b_1] w R :=
  calls_of noCount mixed drawOk Try.func50 rfl (c := cfg) (args := [Sl.v a_0, Sl.v b_1]) rfl (Nat.le_of_ble_eq_true (by kernel_rfl)) drawsOk h
end impl_PermOfTableaux

namespace impl_PermOfTableauxL1
@[reducible] def cfg : Cfg := ⟨17, [], [], [], [3], [1], [101, 107, 112, 15, 21, 124, 76, 137, 28, 115, 91, 81, 130], [138, 140, 82, 6, 86, 85, 132]⟩
def E (pr : Prims) (r_0 : Sl) (t1 : Addr) (w : World) (R : Ending → World → Prop) : Prop :=
  wpC pr PP cfg (DD pr) (codeOf Try.f107) (retQ Try.f107.results.toList R) (argE 0 [Sl.v r_0, .pointer (some t1)]) w
theorem E_eq (pr : Prims) (r_0 : Sl) (t1 : Addr) (w : World) (R : Ending → World → Prop) : E pr r_0 t1 w R = (
  bif decide ((r_0.n : Int) > 0) then (
  pr.idxK 1 r_0 (w64 ((r_0.n : Int) - 1)) fun (a0 : Addr) =>
  pr.load1 (.int .i64) a0 w fun (ξ1 : Int) =>
  pr.load1 (.int .i64) t1 w fun (ξ2 : Int) =>
  pr.drewAll w fun ω3 =>
  R (.returned (.bool (ξ1 == ξ2))) ω3)
  else (
  pr.drewAll w fun ω4 =>
  R (.returned (.bool false)) ω4)) := by kernel_rfl
theorem E_s (r_0 : Sl) (t1 : Addr) (w : World) (R : Ending → World → Prop) : E std r_0 t1 w R = (
  bif decide ((r_0.n : Int) > 0) then (
  idxK 1 r_0 (w64 ((r_0.n : Int) - 1)) fun (a0 : Addr) =>
  load1 (.int .i64) a0 w fun (ξ1 : Int) =>
  load1 (.int .i64) t1 w fun (ξ2 : Int) =>
  drewAll w fun ω3 =>
  R (.returned (.bool (ξ1 == ξ2))) ω3)
  else (
  drewAll w fun ω4 =>
  R (.returned (.bool false)) ω4)) := E_eq std r_0 t1 w R
theorem drawsOk : drawsOk PP cfg okD (codeOf Try.f107) = true := by kernel_rfl
theorem calls (r_0 : Sl) (t1 : Addr) {w : World} {R : Ending → World → Prop} (h : E std r_0 t1 w R) : Calls PP F.impl_PermOfTableauxL1 #[Sl.v r_0, .pointer (some t1)] w R :=
  calls_of noCount mixed drawOk Try.func107 rfl (c := cfg) (args := [Sl.v r_0, .pointer (some t1)]) rfl (Nat.le_of_ble_eq_true (by kernel_rfl)) drawsOk h
end impl_PermOfTableauxL1

namespace spec_PermOfTableaux
@[reducible] def cfg : Cfg := ⟨60, [(6, [1, 6, 7, 8]), (11, [1, 6, 9, 10])], [(1, [1, 6, 7, 8]), (0, [1, 6, 7]), (3, [1, 6, 9, 10]), (2, [9])], [], [4, 5], [], [101, 107, 112, 15, 21, 124, 76, 137, 28, 115, 91, 81, 130], [138, 140, 82, 6, 86, 85, 132]⟩
def q18 (pr : Prims) (R : Ending → World → Prop) : Exit → Env → World → Prop := fun ex e w => normQ ex (fun e w => contE pr cfg (sub (codeOf Try.f51) [1, 1, 1, 1, 1]) (fun e w => wpC pr PP cfg (DD pr) (sub (codeOf Try.f51) [1, 1, 1, 1, 1]) (retQ Try.f51.results.toList R) e w) e w) (retQ Try.f51.results.toList R) e w
def q19 (pr : Prims) (R : Ending → World → Prop) : Exit → Env → World → Prop := fun ex e w => blockQ ex 0 (q18 pr R) e w
def q24 (pr : Prims) (R : Ending → World → Prop) : Exit → Env → World → Prop := fun ex e w => normQ ex (fun e w => contE pr cfg (sub (codeOf Try.f51) [1, 1, 1, 1, 1, 1, 1]) (fun e w => wpC pr PP cfg (DD pr) (sub (codeOf Try.f51) [1, 1, 1, 1, 1, 1, 1]) (retQ Try.f51.results.toList R) e w) e w) (retQ Try.f51.results.toList R) e w
def q25 (pr : Prims) (R : Ending → World → Prop) : Exit → Env → World → Prop := fun ex e w => blockQ ex 2 (q24 pr R) e w
def emb6 (b_1 : Sl) (t_6 : Sl) (size_7 : Int) (r_8 : Int) : Env := [(1, Sl.v b_1), (6, Sl.v t_6), (7, vI size_7), (8, vI r_8)]
def x0 (b_1 : Sl) (t_6 : Sl) (size_7 : Int) : Env := [(1, Sl.v b_1), (6, Sl.v t_6), (7, vI size_7)]
def emb11 (b_1 : Sl) (t_6 : Sl) (out_9 : Sl) (k_10 : Int) : Env := [(1, Sl.v b_1), (6, Sl.v t_6), (9, Sl.v out_9), (10, vI k_10)]
def x2 (out_9 : Sl) : Env := [(9, Sl.v out_9)]
def S6 (pr : Prims) (Q : Exit → Env → World → Prop) : (Env → World → Prop) → Env → World → Prop := fun k e w => wpC pr PP cfg (DD pr) (sub (codeOf Try.f51) [1, 1, 1, 1, 0, 1, 0, 0]) (fun ex e w => normQ ex (fun e' w' => k (Env.restr e' (lookN cfg.loops (keyOf (sub (codeOf Try.f51) [1, 1, 1, 1, 0, 1, 0, 0])))) w') Q e w) e w
def S11 (pr : Prims) (Q : Exit → Env → World → Prop) : (Env → World → Prop) → Env → World → Prop := fun k e w => wpC pr PP cfg (DD pr) (sub (codeOf Try.f51) [1, 1, 1, 1, 1, 1, 0, 1, 0, 0]) (fun ex e w => normQ ex (fun e' w' => k (Env.restr e' (lookN cfg.loops (keyOf (sub (codeOf Try.f51) [1, 1, 1, 1, 1, 1, 0, 1, 0, 0])))) w') Q e w) e w
def B6 (pr : Prims) (b_1 : Sl) (t_6 : Sl) (size_7 : Int) (r_8 : Int) (w : World) (k : Env → World → Prop) (Q : Exit → Env → World → Prop) : Prop :=
  S6 pr Q k (emb6 b_1 t_6 size_7 r_8) w
def L6 (pr : Prims) (b_1 : Sl) (t_6 : Sl) (size_7 : Int) (r_8 : Int) (w : World) (Q : Exit → Env → World → Prop) : Prop :=
  pr.loop (S6 pr Q) (emb6 b_1 t_6 size_7 r_8) w
def B11 (pr : Prims) (b_1 : Sl) (t_6 : Sl) (out_9 : Sl) (k_10 : Int) (w : World) (k : Env → World → Prop) (Q : Exit → Env → World → Prop) : Prop :=
  S11 pr Q k (emb11 b_1 t_6 out_9 k_10) w
def L11 (pr : Prims) (b_1 : Sl) (t_6 : Sl) (out_9 : Sl) (k_10 : Int) (w : World) (Q : Exit → Env → World → Prop) : Prop :=
  pr.loop (S11 pr Q) (emb11 b_1 t_6 out_9 k_10) w
def E (pr : Prims) (a_0 : Sl) (b_1 : Sl) (w : World) (R : Ending → World → Prop) : Prop :=
  wpC pr PP cfg (DD pr) (codeOf Try.f51) (retQ Try.f51.results.toList R) (argE 0 [Sl.v a_0, Sl.v b_1]) w
theorem B6_eq (pr : Prims) (b_1 : Sl) (t_6 : Sl) (size_7 : Int) (r_8 : Int) (w : World) (k : Env → World → Prop) (Q : Exit → Env → World → Prop) : B6 pr b_1 t_6 size_7 r_8 w k Q = (
  bif decide (r_8 < (b_1.n : Int)) then (
  pr.idxK 1 b_1 r_8 fun (a20 : Addr) =>
  pr.load1 .sl a20 w fun (ξ21 : Sl) =>
  k (emb6 b_1 t_6 (w64 (size_7 + (ξ21.n : Int))) (w64 (r_8 + 1))) w)
  else (
  Q (.exit 0) (x0 b_1 t_6 size_7) w)) := by kernel_rfl
theorem B6_s (b_1 : Sl) (t_6 : Sl) (size_7 : Int) (r_8 : Int) (w : World) (k : Env → World → Prop) (Q : Exit → Env → World → Prop) : B6 std b_1 t_6 size_7 r_8 w k Q = (
  bif decide (r_8 < (b_1.n : Int)) then (
  idxK 1 b_1 r_8 fun (a20 : Addr) =>
  load1 .sl a20 w fun (ξ21 : Sl) =>
  k (emb6 b_1 t_6 (w64 (size_7 + (ξ21.n : Int))) (w64 (r_8 + 1))) w)
  else (
  Q (.exit 0) (x0 b_1 t_6 size_7) w)) := B6_eq std b_1 t_6 size_7 r_8 w k Q
theorem L6_rule (b_1 : Sl) (t_6 : Sl) (size_7 : Int) (r_8 : Int) (w : World) (Q : Exit → Env → World → Prop) (I : Int → Int → World → Prop) (μ : Int → Int → World → Nat) (h0 : I size_7 r_8 w)
    (h : ∀ (size_7 : Int) (r_8 : Int) (w' : World), I size_7 r_8 w' → B6 std b_1 t_6 size_7 r_8 w' (fun e2 w2 => ∃ size_7_n r_8_n, e2 = emb6 b_1 t_6 size_7_n r_8_n ∧ I size_7_n r_8_n w2 ∧ μ size_7_n r_8_n w2 < μ size_7 r_8 w') Q) :
    L6 std b_1 t_6 size_7 r_8 w Q := by
  unfold L6
  refine LoopE.intro (σ := Int × Int) (step := S6 std Q) (fun s => emb6 b_1 t_6 s.1 s.2) (fun s w => I s.1 s.2 w) (fun s w => μ s.1 s.2 w) (size_7, r_8) rfl h0 ?_
  intro s w' hI
  have h1 := h s.1 s.2 w' hI
  unfold B6 at h1
  simp only [Prod.exists]
  exact h1
theorem B11_eq (pr : Prims) (b_1 : Sl) (t_6 : Sl) (out_9 : Sl) (k_10 : Int) (w : World) (k : Env → World → Prop) (Q : Exit → Env → World → Prop) : B11 pr b_1 t_6 out_9 k_10 w k Q = (
  bif decide (k_10 ≥ 1) then (
  pr.call1 (.int .i64) PP F.spec_l19Row #[Sl.v b_1, vI k_10] w fun (ρ26 : Int) ω27 =>
  pr.call1 (.int .i64) PP F.spec_l19Take #[Sl.v t_6, vI ρ26] ω27 fun (ρ28 : Int) ω29 =>
  pr.idxK 1 out_9 (w64 (k_10 - 1)) fun (a30 : Addr) =>
  pr.storeC a30 (vI ρ28) ω29 fun ω31 =>
  k (emb11 b_1 t_6 out_9 (w64 (k_10 - 1))) ω31)
  else (
  Q (.exit 2) (x2 out_9) w)) := by kernel_rfl
theorem B11_s (b_1 : Sl) (t_6 : Sl) (out_9 : Sl) (k_10 : Int) (w : World) (k : Env → World → Prop) (Q : Exit → Env → World → Prop) : B11 std b_1 t_6 out_9 k_10 w k Q = (
  bif decide (k_10 ≥ 1) then (
  call1 (.int .i64) PP F.spec_l19Row #[Sl.v b_1, vI k_10] w fun (ρ26 : Int) ω27 =>
  call1 (.int .i64) PP F.spec_l19Take #[Sl.v t_6, vI ρ26] ω27 fun (ρ28 : Int) ω29 =>
  idxK 1 out_9 (w64 (k_10 - 1)) fun (a30 : Addr) =>
  storeC a30 (vI ρ28) ω29 fun ω31 =>
  k (emb11 b_1 t_6 out_9 (w64 (k_10 - 1))) ω31)
  else (
  Q (.exit 2) (x2 out_9) w)) := B11_eq std b_1 t_6 out_9 k_10 w k Q
theorem L11_rule (b_1 : Sl) (t_6 : Sl) (out_9 : Sl) (k_10 : Int) (w : World) (Q : Exit → Env → World → Prop) (I : Int → World → Prop) (μ : Int → World → Nat) (h0 : I k_10 w)
    (h : ∀ (k_10 : Int) (w' : World), I k_10 w' → B11 std b_1 t_6 out_9 k_10 w' (fun e2 w2 => ∃ k_10_n, e2 = emb11 b_1 t_6 out_9 k_10_n ∧ I k_10_n w2 ∧ μ k_10_n w2 < μ k_10 w') Q) :
    L11 std b_1 t_6 out_9 k_10 w Q := by
  unfold L11
  refine LoopE.intro (σ := Int) (step := S11 std Q) (fun s => emb11 b_1 t_6 out_9 s) (fun s w => I s w) (fun s w => μ s w) k_10 rfl h0 ?_
  intro s w' hI
  have h1 := h s w' hI
  unfold B11 at h1
  exact h1
theorem A11_2_eq (pr : Prims) (out_9 : Sl) (w : World) (R : Ending → World → Prop) : (q25 pr R) (.exit 2) (x2 out_9) w = (
  R (.returned (.tuple #[Sl.v out_9, .bool true])) w) := by kernel_rfl
theorem A11_2_s (out_9 : Sl) (w : World) (R : Ending → World → Prop) : (q25 std R) (.exit 2) (x2 out_9) w = (
  R (.returned (.tuple #[Sl.v out_9, .bool true])) w) := A11_2_eq std out_9 w R
theorem A6_0_eq (pr : Prims) (b_1 : Sl) (t_6 : Sl) (size_7 : Int) (w : World) (R : Ending → World → Prop) : (q19 pr R) (.exit 0) (x0 b_1 t_6 size_7) w = (
  pr.sem1 .sl PP (Instr.makeSlice T_Sint (vI size_7) (vI size_7)) w fun (ρ22 : Sl) ω23 =>
  L11 pr b_1 t_6 ρ22 size_7 ω23 (q25 pr R)) := by kernel_rfl
theorem A6_0_s (b_1 : Sl) (t_6 : Sl) (size_7 : Int) (w : World) (R : Ending → World → Prop) : (q19 std R) (.exit 0) (x0 b_1 t_6 size_7) w = (
  sem1 .sl PP (Instr.makeSlice T_Sint (vI size_7) (vI size_7)) w fun (ρ22 : Sl) ω23 =>
  L11 std b_1 t_6 ρ22 size_7 ω23 (q25 std R)) := A6_0_eq std b_1 t_6 size_7 w R
theorem E_eq (pr : Prims) (a_0 : Sl) (b_1 : Sl) (w : World) (R : Ending → World → Prop) : E pr a_0 b_1 w R = (
  pr.call1 .bool PP F.spec_IsTableau #[Sl.v a_0] w fun (ρ0 : Bool) ω1 =>
  bif !ρ0 then (
  pr.sem1 .sl PP (Instr.buildSlice T_Sint 0 #[]) ω1 fun (ρ2 : Sl) ω3 =>
  R (.returned (.tuple #[Sl.v ρ2, .bool false])) ω3)
  else (
  pr.call1 .bool PP F.spec_IsTableau #[Sl.v b_1] ω1 fun (ρ4 : Bool) ω5 =>
  bif !ρ4 then (
  pr.sem1 .sl PP (Instr.buildSlice T_Sint 0 #[]) ω5 fun (ρ6 : Sl) ω7 =>
  R (.returned (.tuple #[Sl.v ρ6, .bool false])) ω7)
  else (
  pr.call1 .sl PP F.spec_l19Lengths #[Sl.v a_0] ω5 fun (ρ8 : Sl) ω9 =>
  pr.call1 .sl PP F.spec_l19Lengths #[Sl.v b_1] ω9 fun (ρ10 : Sl) ω11 =>
  pr.call1 .bool PP F.spec_l2Same #[Sl.v ρ8, Sl.v ρ10] ω11 fun (ρ12 : Bool) ω13 =>
  bif !ρ12 then (
  pr.sem1 .sl PP (Instr.buildSlice T_Sint 0 #[]) ω13 fun (ρ14 : Sl) ω15 =>
  R (.returned (.tuple #[Sl.v ρ14, .bool false])) ω15)
  else (
  pr.call1 .sl PP F.spec_l2Copy #[Sl.v a_0] ω13 fun (ρ16 : Sl) ω17 =>
  L6 pr b_1 ρ16 0 0 ω17 (q19 pr R))))) := by kernel_rfl
theorem E_s (a_0 : Sl) (b_1 : Sl) (w : World) (R : Ending → World → Prop) : E std a_0 b_1 w R = (
  call1 .bool PP F.spec_IsTableau #[Sl.v a_0] w fun (ρ0 : Bool) ω1 =>
  bif !ρ0 then (
  sem1 .sl PP (Instr.buildSlice T_Sint 0 #[]) ω1 fun (ρ2 : Sl) ω3 =>
  R (.returned (.tuple #[Sl.v ρ2, .bool false])) ω3)
  else (
  call1 .bool PP F.spec_IsTableau #[Sl.v b_1] ω1 fun (ρ4 : Bool) ω5 =>
  bif !ρ4 then (
  sem1 .sl PP (Instr.buildSlice T_Sint 0 #[]) ω5 fun (ρ6 : Sl) ω7 =>
  R (.returned (.tuple #[Sl.v ρ6, .bool false])) ω7)
  else (
  call1 .sl PP F.spec_l19Lengths #[Sl.v a_0] ω5 fun (ρ8 : Sl) ω9 =>
  call1 .sl PP F.spec_l19Lengths #[Sl.v b_1] ω9 fun (ρ10 : Sl) ω11 =>
  call1 .bool PP F.spec_l2Same #[Sl.v ρ8, Sl.v ρ10] ω11 fun (ρ12 : Bool) ω13 =>
  bif !ρ12 then (
  sem1 .sl PP (Instr.buildSlice T_Sint 0 #[]) ω13 fun (ρ14 : Sl) ω15 =>
  R (.returned (.tuple #[Sl.v ρ14, .bool false])) ω15)
  else (
  call1 .sl PP F.spec_l2Copy #[Sl.v a_0] ω13 fun (ρ16 : Sl) ω17 =>
  L6 std b_1 ρ16 0 0 ω17 (q19 std R))))) := E_eq std a_0 b_1 w R
theorem drawsOk : drawsOk PP cfg okD (codeOf Try.f51) = true := by kernel_rfl
theorem calls (a_0 : Sl) (b_1 : Sl) {w : World} {R : Ending → World → Prop} (h : E std a_0 b_1 w R) : Calls PP F.spec_PermOfTableaux #[Sl.v a_0, Sl.v b_1] w R :=
  calls_of noCount mixed drawOk Try.func51 rfl (c := cfg) (args := [Sl.v a_0, Sl.v b_1]) rfl (Nat.le_of_ble_eq_true (by kernel_rfl)) drawsOk h
end spec_PermOfTableaux

namespace spec_l19Take
@[reducible] def cfg : Cfg := ⟨71, [(8, [0, 6, 7, 8]), (5, [0, 6, 7])], [(3, [0, 6, 7, 8]), (2, [0, 6, 7, 8]), (1, [0, 6, 7]), (0, [6])], [], [4], [], [101, 107, 112, 15, 21, 124, 76, 137, 28, 115, 91, 81, 130], [138, 140, 82, 6, 86, 85, 132]⟩
def q11 (pr : Prims) (R : Ending → World → Prop) : Exit → Env → World → Prop := fun ex e w => normQ ex (fun e w => contE pr cfg (sub (codeOf Try.f109) [1, 1, 1, 1, 1]) (fun e w => wpC pr PP cfg (DD pr) (sub (codeOf Try.f109) [1, 1, 1, 1, 1]) (retQ Try.f109.results.toList R) e w) e w) (retQ Try.f109.results.toList R) e w
def q12 (pr : Prims) (R : Ending → World → Prop) : Exit → Env → World → Prop := fun ex e w => blockQ ex 0 (q11 pr R) e w
def q13 (pr : Prims) (k : Env → World → Prop) (Q : Exit → Env → World → Prop) : Exit → Env → World → Prop := fun ex e w => normQ ex (fun e w => contE pr cfg (sub (codeOf Try.f109) [1, 1, 1, 1, 0, 1, 0, 0, 1, 1]) (fun e w => wpC pr PP cfg (DD pr) (sub (codeOf Try.f109) [1, 1, 1, 1, 0, 1, 0, 0, 1, 1]) (fun ex e w => normQ ex (fun e' w' => k (Env.restr e' (lookN cfg.loops (keyOf (sub (codeOf Try.f109) [1, 1, 1, 1, 0, 1, 0, 0])))) w') Q e w) e w) e w) (fun ex e w => normQ ex (fun e' w' => k (Env.restr e' (lookN cfg.loops (keyOf (sub (codeOf Try.f109) [1, 1, 1, 1, 0, 1, 0, 0])))) w') Q e w) e w
def q14 (pr : Prims) (k : Env → World → Prop) (Q : Exit → Env → World → Prop) : Exit → Env → World → Prop := fun ex e w => blockQ ex 1 (q13 pr k Q) e w
def q17 (pr : Prims) (k : Env → World → Prop) (Q : Exit → Env → World → Prop) : Exit → Env → World → Prop := fun ex e w => normQ ex (fun e w => contE pr cfg (sub (codeOf Try.f109) [1, 1, 1, 1, 0, 1, 0, 0, 1, 0, 0, 1, 1]) (fun e w => wpC pr PP cfg (DD pr) (sub (codeOf Try.f109) [1, 1, 1, 1, 0, 1, 0, 0, 1, 0, 0, 1, 1]) (q14 pr k Q) e w) e w) (q14 pr k Q) e w
def q18 (pr : Prims) (k : Env → World → Prop) (Q : Exit → Env → World → Prop) : Exit → Env → World → Prop := fun ex e w => blockQ ex 2 (q17 pr k Q) e w
def emb5 (t_0 : Sl) (n_6 : Int) (r_7 : Int) : Env := [(0, Sl.v t_0), (6, vI n_6), (7, vI r_7)]
def emb8 (t_0 : Sl) (n_6 : Int) (r_7 : Int) (c_8 : Int) : Env := [(0, Sl.v t_0), (6, vI n_6), (7, vI r_7), (8, vI c_8)]
def x2 (t_0 : Sl) (n_6 : Int) (r_7 : Int) (c_8 : Int) : Env := [(0, Sl.v t_0), (6, vI n_6), (7, vI r_7), (8, vI c_8)]
def x0 (n_6 : Int) : Env := [(6, vI n_6)]
def S8 (pr : Prims) (Q : Exit → Env → World → Prop) : (Env → World → Prop) → Env → World → Prop := fun k e w => wpC pr PP cfg (DD pr) (sub (codeOf Try.f109) [1, 1, 1, 1, 0, 1, 0, 0, 1, 0, 0, 1, 0, 0, 0]) (fun ex e w => normQ ex (fun e' w' => k (Env.restr e' (lookN cfg.loops (keyOf (sub (codeOf Try.f109) [1, 1, 1, 1, 0, 1, 0, 0, 1, 0, 0, 1, 0, 0, 0])))) w') Q e w) e w
def S5 (pr : Prims) (Q : Exit → Env → World → Prop) : (Env → World → Prop) → Env → World → Prop := fun k e w => wpC pr PP cfg (DD pr) (sub (codeOf Try.f109) [1, 1, 1, 1, 0, 1, 0, 0]) (fun ex e w => normQ ex (fun e' w' => k (Env.restr e' (lookN cfg.loops (keyOf (sub (codeOf Try.f109) [1, 1, 1, 1, 0, 1, 0, 0])))) w') Q e w) e w
def B8 (pr : Prims) (t_0 : Sl) (n_6 : Int) (r_7 : Int) (c_8 : Int) (w : World) (k : Env → World → Prop) (Q : Exit → Env → World → Prop) : Prop :=
  S8 pr Q k (emb8 t_0 n_6 r_7 c_8) w
def L8 (pr : Prims) (t_0 : Sl) (n_6 : Int) (r_7 : Int) (c_8 : Int) (w : World) (Q : Exit → Env → World → Prop) : Prop :=
  pr.loop (S8 pr Q) (emb8 t_0 n_6 r_7 c_8) w
def B5 (pr : Prims) (t_0 : Sl) (n_6 : Int) (r_7 : Int) (w : World) (k : Env → World → Prop) (Q : Exit → Env → World → Prop) : Prop :=
  S5 pr Q k (emb5 t_0 n_6 r_7) w
def L5 (pr : Prims) (t_0 : Sl) (n_6 : Int) (r_7 : Int) (w : World) (Q : Exit → Env → World → Prop) : Prop :=
  pr.loop (S5 pr Q) (emb5 t_0 n_6 r_7) w
def E (pr : Prims) (t_0 : Sl) (row_1 : Int) (w : World) (R : Ending → World → Prop) : Prop :=
  wpC pr PP cfg (DD pr) (codeOf Try.f109) (retQ Try.f109.results.toList R) (argE 0 [Sl.v t_0, vI row_1]) w
theorem B8_eq (pr : Prims) (t_0 : Sl) (n_6 : Int) (r_7 : Int) (c_8 : Int) (w : World) (k : Env → World → Prop) (Q : Exit → Env → World → Prop) : B8 pr t_0 n_6 r_7 c_8 w k Q = (
  pr.idxK 1 t_0 r_7 fun (a19 : Addr) =>
  pr.load1 .sl a19 w fun (ξ20 : Sl) =>
  pr.idxK 1 ξ20 c_8 fun (a21 : Addr) =>
  pr.load1 (.int .i64) a21 w fun (ξ22 : Int) =>
  bif decide (ξ22 > n_6) then (
  k (emb8 t_0 n_6 r_7 (w64 (c_8 - 1))) w)
  else (
  Q (.exit 2) (x2 t_0 n_6 r_7 c_8) w)) := by kernel_rfl
theorem B8_s (t_0 : Sl) (n_6 : Int) (r_7 : Int) (c_8 : Int) (w : World) (k : Env → World → Prop) (Q : Exit → Env → World → Prop) : B8 std t_0 n_6 r_7 c_8 w k Q = (
  idxK 1 t_0 r_7 fun (a19 : Addr) =>
  load1 .sl a19 w fun (ξ20 : Sl) =>
  idxK 1 ξ20 c_8 fun (a21 : Addr) =>
  load1 (.int .i64) a21 w fun (ξ22 : Int) =>
  bif decide (ξ22 > n_6) then (
  k (emb8 t_0 n_6 r_7 (w64 (c_8 - 1))) w)
  else (
  Q (.exit 2) (x2 t_0 n_6 r_7 c_8) w)) := B8_eq std t_0 n_6 r_7 c_8 w k Q
theorem L8_rule (t_0 : Sl) (n_6 : Int) (r_7 : Int) (c_8 : Int) (w : World) (Q : Exit → Env → World → Prop) (I : Int → World → Prop) (μ : Int → World → Nat) (h0 : I c_8 w)
    (h : ∀ (c_8 : Int) (w' : World), I c_8 w' → B8 std t_0 n_6 r_7 c_8 w' (fun e2 w2 => ∃ c_8_n, e2 = emb8 t_0 n_6 r_7 c_8_n ∧ I c_8_n w2 ∧ μ c_8_n w2 < μ c_8 w') Q) :
    L8 std t_0 n_6 r_7 c_8 w Q := by
  unfold L8
  refine LoopE.intro (σ := Int) (step := S8 std Q) (fun s => emb8 t_0 n_6 r_7 s) (fun s w => I s w) (fun s w => μ s w) c_8 rfl h0 ?_
  intro s w' hI
  have h1 := h s w' hI
  unfold B8 at h1
  exact h1
theorem A8_2_eq (pr : Prims) (t_0 : Sl) (n_6 : Int) (r_7 : Int) (c_8 : Int) (w : World) (k : Env → World → Prop) (Q : Exit → Env → World → Prop) : (q18 pr k Q) (.exit 2) (x2 t_0 n_6 r_7 c_8) w = (
  pr.idxK 1 t_0 r_7 fun (a23 : Addr) =>
  pr.load1 .sl a23 w fun (ξ24 : Sl) =>
  pr.idxK 1 ξ24 c_8 fun (a25 : Addr) =>
  pr.load1 (.int .i64) a25 w fun (ξ26 : Int) =>
  pr.idxK 1 t_0 r_7 fun (a27 : Addr) =>
  pr.load1 .sl a27 w fun (ξ28 : Sl) =>
  pr.idxK 1 ξ28 c_8 fun (a29 : Addr) =>
  pr.storeC a29 (vI n_6) w fun ω30 =>
  k (emb5 t_0 ξ26 (w64 (r_7 - 1))) ω30) := by kernel_rfl
theorem A8_2_s (t_0 : Sl) (n_6 : Int) (r_7 : Int) (c_8 : Int) (w : World) (k : Env → World → Prop) (Q : Exit → Env → World → Prop) : (q18 std k Q) (.exit 2) (x2 t_0 n_6 r_7 c_8) w = (
  idxK 1 t_0 r_7 fun (a23 : Addr) =>
  load1 .sl a23 w fun (ξ24 : Sl) =>
  idxK 1 ξ24 c_8 fun (a25 : Addr) =>
  load1 (.int .i64) a25 w fun (ξ26 : Int) =>
  idxK 1 t_0 r_7 fun (a27 : Addr) =>
  load1 .sl a27 w fun (ξ28 : Sl) =>
  idxK 1 ξ28 c_8 fun (a29 : Addr) =>
  storeC a29 (vI n_6) w fun ω30 =>
  k (emb5 t_0 ξ26 (w64 (r_7 - 1))) ω30) := A8_2_eq std t_0 n_6 r_7 c_8 w k Q
theorem B5_eq (pr : Prims) (t_0 : Sl) (n_6 : Int) (r_7 : Int) (w : World) (k : Env → World → Prop) (Q : Exit → Env → World → Prop) : B5 pr t_0 n_6 r_7 w k Q = (
  bif decide (r_7 ≥ 0) then (
  pr.idxK 1 t_0 r_7 fun (a15 : Addr) =>
  pr.load1 .sl a15 w fun (ξ16 : Sl) =>
  L8 pr t_0 n_6 r_7 (w64 ((ξ16.n : Int) - 1)) w (q18 pr k Q))
  else (
  Q (.exit 0) (x0 n_6) w)) := by kernel_rfl
theorem B5_s (t_0 : Sl) (n_6 : Int) (r_7 : Int) (w : World) (k : Env → World → Prop) (Q : Exit → Env → World → Prop) : B5 std t_0 n_6 r_7 w k Q = (
  bif decide (r_7 ≥ 0) then (
  idxK 1 t_0 r_7 fun (a15 : Addr) =>
  load1 .sl a15 w fun (ξ16 : Sl) =>
  L8 std t_0 n_6 r_7 (w64 ((ξ16.n : Int) - 1)) w (q18 std k Q))
  else (
  Q (.exit 0) (x0 n_6) w)) := B5_eq std t_0 n_6 r_7 w k Q
theorem L5_rule (t_0 : Sl) (n_6 : Int) (r_7 : Int) (w : World) (Q : Exit → Env → World → Prop) (I : Int → Int → World → Prop) (μ : Int → Int → World → Nat) (h0 : I n_6 r_7 w)
    (h : ∀ (n_6 : Int) (r_7 : Int) (w' : World), I n_6 r_7 w' → B5 std t_0 n_6 r_7 w' (fun e2 w2 => ∃ n_6_n r_7_n, e2 = emb5 t_0 n_6_n r_7_n ∧ I n_6_n r_7_n w2 ∧ μ n_6_n r_7_n w2 < μ n_6 r_7 w') Q) :
    L5 std t_0 n_6 r_7 w Q := by
  unfold L5
  refine LoopE.intro (σ := Int × Int) (step := S5 std Q) (fun s => emb5 t_0 s.1 s.2) (fun s w => I s.1 s.2 w) (fun s w => μ s.1 s.2 w) (n_6, r_7) rfl h0 ?_
  intro s w' hI
  have h1 := h s.1 s.2 w' hI
  unfold B5 at h1
  simp only [Prod.exists]
  exact h1
theorem A5_0_eq (pr : Prims) (n_6 : Int) (w : World) (R : Ending → World → Prop) : (q12 pr R) (.exit 0) (x0 n_6) w = (
  R (.returned (vI n_6)) w) := by kernel_rfl
theorem A5_0_s (n_6 : Int) (w : World) (R : Ending → World → Prop) : (q12 std R) (.exit 0) (x0 n_6) w = (
  R (.returned (vI n_6)) w) := A5_0_eq std n_6 w R
theorem E_eq (pr : Prims) (t_0 : Sl) (row_1 : Int) (w : World) (R : Ending → World → Prop) : E pr t_0 row_1 w R = (
  pr.idxK 1 t_0 row_1 fun (a0 : Addr) =>
  pr.load1 .sl a0 w fun (ξ1 : Sl) =>
  pr.idxK 1 t_0 row_1 fun (a2 : Addr) =>
  pr.load1 .sl a2 w fun (ξ3 : Sl) =>
  pr.idxK 1 ξ3 (w64 ((ξ1.n : Int) - 1)) fun (a4 : Addr) =>
  pr.load1 (.int .i64) a4 w fun (ξ5 : Int) =>
  pr.idxK 1 t_0 row_1 fun (a6 : Addr) =>
  pr.load1 .sl a6 w fun (ξ7 : Sl) =>
  pr.cutK 1 ξ7 none (some (w64 ((ξ1.n : Int) - 1))) fun (s8 : Sl) =>
  pr.idxK 1 t_0 row_1 fun (a9 : Addr) =>
  pr.storeC a9 (Sl.v s8) w fun ω10 =>
  L5 pr t_0 ξ5 (w64 (row_1 - 1)) ω10 (q12 pr R)) := by kernel_rfl
theorem E_s (t_0 : Sl) (row_1 : Int) (w : World) (R : Ending → World → Prop) : E std t_0 row_1 w R = (
  idxK 1 t_0 row_1 fun (a0 : Addr) =>
  load1 .sl a0 w fun (ξ1 : Sl) =>
  idxK 1 t_0 row_1 fun (a2 : Addr) =>
  load1 .sl a2 w fun (ξ3 : Sl) =>
  idxK 1 ξ3 (w64 ((ξ1.n : Int) - 1)) fun (a4 : Addr) =>
  load1 (.int .i64) a4 w fun (ξ5 : Int) =>
  idxK 1 t_0 row_1 fun (a6 : Addr) =>
  load1 .sl a6 w fun (ξ7 : Sl) =>
  cutK 1 ξ7 none (some (w64 ((ξ1.n : Int) - 1))) fun (s8 : Sl) =>
  idxK 1 t_0 row_1 fun (a9 : Addr) =>
  storeC a9 (Sl.v s8) w fun ω10 =>
  L5 std t_0 ξ5 (w64 (row_1 - 1)) ω10 (q12 std R)) := E_eq std t_0 row_1 w R
theorem drawsOk : drawsOk PP cfg okD (codeOf Try.f109) = true := by kernel_rfl
theorem calls (t_0 : Sl) (row_1 : Int) {w : World} {R : Ending → World → Prop} (h : E std t_0 row_1 w R) : Calls PP F.spec_l19Take #[Sl.v t_0, vI row_1] w R :=
  calls_of noCount mixed drawOk Try.func109 rfl (c := cfg) (args := [Sl.v t_0, vI row_1]) rfl (Nat.le_of_ble_eq_true (by kernel_rfl)) drawsOk h
end spec_l19Take

namespace spec_l19Row
@[reducible] def cfg : Cfg := ⟨19, [(2, [0, 1, 5])], [(1, [0, 1, 5]), (0, [])], [], [4], [], [101, 107, 112, 15, 21, 124, 76, 137, 28, 115, 91, 81, 130], [138, 140, 82, 6, 86, 85, 132]⟩
def q0 (pr : Prims) (R : Ending → World → Prop) : Exit → Env → World → Prop := fun ex e w => normQ ex (fun e w => contE pr cfg (sub (codeOf Try.f110) [1, 1]) (fun e w => wpC pr PP cfg (DD pr) (sub (codeOf Try.f110) [1, 1]) (retQ Try.f110.results.toList R) e w) e w) (retQ Try.f110.results.toList R) e w
def q1 (pr : Prims) (R : Ending → World → Prop) : Exit → Env → World → Prop := fun ex e w => blockQ ex 0 (q0 pr R) e w
def emb2 (t_0 : Sl) (n_1 : Int) (r_5 : Int) : Env := [(0, Sl.v t_0), (1, vI n_1), (5, vI r_5)]
def x0 : Env := []
def S2 (pr : Prims) (Q : Exit → Env → World → Prop) : (Env → World → Prop) → Env → World → Prop := fun k e w => wpC pr PP cfg (DD pr) (sub (codeOf Try.f110) [1, 0, 1, 0, 0]) (fun ex e w => normQ ex (fun e' w' => k (Env.restr e' (lookN cfg.loops (keyOf (sub (codeOf Try.f110) [1, 0, 1, 0, 0])))) w') Q e w) e w
def B2 (pr : Prims) (t_0 : Sl) (n_1 : Int) (r_5 : Int) (w : World) (k : Env → World → Prop) (Q : Exit → Env → World → Prop) : Prop :=
  S2 pr Q k (emb2 t_0 n_1 r_5) w
def L2 (pr : Prims) (t_0 : Sl) (n_1 : Int) (r_5 : Int) (w : World) (Q : Exit → Env → World → Prop) : Prop :=
  pr.loop (S2 pr Q) (emb2 t_0 n_1 r_5) w
def E (pr : Prims) (t_0 : Sl) (n_1 : Int) (w : World) (R : Ending → World → Prop) : Prop :=
  wpC pr PP cfg (DD pr) (codeOf Try.f110) (retQ Try.f110.results.toList R) (argE 0 [Sl.v t_0, vI n_1]) w
theorem B2_eq (pr : Prims) (t_0 : Sl) (n_1 : Int) (r_5 : Int) (w : World) (k : Env → World → Prop) (Q : Exit → Env → World → Prop) : B2 pr t_0 n_1 r_5 w k Q = (
  bif decide (r_5 < (t_0.n : Int)) then (
  pr.idxK 1 t_0 r_5 fun (a2 : Addr) =>
  pr.load1 .sl a2 w fun (ξ3 : Sl) =>
  pr.call1 .bool PP F.spec_l2Has #[Sl.v ξ3, vI n_1] w fun (ρ4 : Bool) ω5 =>
  bif ρ4 then (
  Q .ret [(4, vI r_5)] ω5)
  else (
  k (emb2 t_0 n_1 (w64 (r_5 + 1))) ω5))
  else (
  Q (.exit 0) (x0) w)) := by kernel_rfl
theorem B2_s (t_0 : Sl) (n_1 : Int) (r_5 : Int) (w : World) (k : Env → World → Prop) (Q : Exit → Env → World → Prop) : B2 std t_0 n_1 r_5 w k Q = (
  bif decide (r_5 < (t_0.n : Int)) then (
  idxK 1 t_0 r_5 fun (a2 : Addr) =>
  load1 .sl a2 w fun (ξ3 : Sl) =>
  call1 .bool PP F.spec_l2Has #[Sl.v ξ3, vI n_1] w fun (ρ4 : Bool) ω5 =>
  bif ρ4 then (
  Q .ret [(4, vI r_5)] ω5)
  else (
  k (emb2 t_0 n_1 (w64 (r_5 + 1))) ω5))
  else (
  Q (.exit 0) (x0) w)) := B2_eq std t_0 n_1 r_5 w k Q
theorem L2_rule (t_0 : Sl) (n_1 : Int) (r_5 : Int) (w : World) (Q : Exit → Env → World → Prop) (I : Int → World → Prop) (μ : Int → World → Nat) (h0 : I r_5 w)
    (h : ∀ (r_5 : Int) (w' : World), I r_5 w' → B2 std t_0 n_1 r_5 w' (fun e2 w2 => ∃ r_5_n, e2 = emb2 t_0 n_1 r_5_n ∧ I r_5_n w2 ∧ μ r_5_n w2 < μ r_5 w') Q) :
    L2 std t_0 n_1 r_5 w Q := by
  unfold L2
  refine LoopE.intro (σ := Int) (step := S2 std Q) (fun s => emb2 t_0 n_1 s) (fun s w => I s w) (fun s w => μ s w) r_5 rfl h0 ?_
  intro s w' hI
  have h1 := h s w' hI
  unfold B2 at h1
  exact h1
theorem A2_0_eq (pr : Prims) (w : World) (R : Ending → World → Prop) : (q1 pr R) (.exit 0) (x0) w = (
  R (.returned (vI 0)) w) := by kernel_rfl
theorem A2_0_s (w : World) (R : Ending → World → Prop) : (q1 std R) (.exit 0) (x0) w = (
  R (.returned (vI 0)) w) := A2_0_eq std w R
theorem R2_eq (pr : Prims) (v4 : Value) (w : World) (R : Ending → World → Prop) : (q1 pr R) .ret [(4, v4)] w = (
  R (.returned (v4)) w) := by kernel_rfl
theorem R2_s (v4 : Value) (w : World) (R : Ending → World → Prop) : (q1 std R) .ret [(4, v4)] w = (
  R (.returned (v4)) w) := R2_eq std v4 w R
theorem E_eq (pr : Prims) (t_0 : Sl) (n_1 : Int) (w : World) (R : Ending → World → Prop) : E pr t_0 n_1 w R = (
  L2 pr t_0 n_1 0 w (q1 pr R)) := by kernel_rfl
theorem E_s (t_0 : Sl) (n_1 : Int) (w : World) (R : Ending → World → Prop) : E std t_0 n_1 w R = (
  L2 std t_0 n_1 0 w (q1 std R)) := E_eq std t_0 n_1 w R
theorem drawsOk : drawsOk PP cfg okD (codeOf Try.f110) = true := by kernel_rfl
theorem calls (t_0 : Sl) (n_1 : Int) {w : World} {R : Ending → World → Prop} (h : E std t_0 n_1 w R) : Calls PP F.spec_l19Row #[Sl.v t_0, vI n_1] w R :=
  calls_of noCount mixed drawOk Try.func110 rfl (c := cfg) (args := [Sl.v t_0, vI n_1]) rfl (Nat.le_of_ble_eq_true (by kernel_rfl)) drawsOk h
end spec_l19Row

end Go.Proofs.Ytdchjhhpbdekeaa

/- What each function does, step by step, written by a program (Gen.lean); each equation is checked by the kernel. -/
namespace Go.Proofs.Ytdchjhhpbdekeaa
open Go
set_option linter.unusedVariables false
set_option maxRecDepth 100000
namespace spec_l2Same
@[reducible] def cfg : Cfg := ⟨26, [(4, [0, 1, 5])], [(1, [0, 1, 5]), (0, [])], [], [4], [6], [101, 107, 112, 15, 21, 124, 76, 137, 28, 115, 91, 81, 130], [138, 140, 82, 6, 86, 85, 132]⟩
def q0 (pr : Prims) (R : Ending → World → Prop) : Exit → Env → World → Prop := fun ex e w => normQ ex (fun e w => contE pr cfg (sub (codeOf Try.f81) [1, 1, 1]) (fun e w => wpC pr PP cfg (DD pr) (sub (codeOf Try.f81) [1, 1, 1]) (retQ Try.f81.results.toList R) e w) e w) (retQ Try.f81.results.toList R) e w
def q1 (pr : Prims) (R : Ending → World → Prop) : Exit → Env → World → Prop := fun ex e w => blockQ ex 0 (q0 pr R) e w
def emb4 (a_0 : Sl) (b_1 : Sl) (k_5 : Int) : Env := [(0, Sl.v a_0), (1, Sl.v b_1), (5, vI k_5)]
def x0 : Env := []
def S4 (pr : Prims) (Q : Exit → Env → World → Prop) : (Env → World → Prop) → Env → World → Prop := fun k e w => wpC pr PP cfg (DD pr) (sub (codeOf Try.f81) [1, 1, 0, 1, 0, 0]) (fun ex e w => normQ ex (fun e' w' => k (Env.restr e' (lookN cfg.loops (keyOf (sub (codeOf Try.f81) [1, 1, 0, 1, 0, 0])))) w') Q e w) e w
def B4 (pr : Prims) (a_0 : Sl) (b_1 : Sl) (k_5 : Int) (w : World) (k : Env → World → Prop) (Q : Exit → Env → World → Prop) : Prop :=
  S4 pr Q k (emb4 a_0 b_1 k_5) w
def L4 (pr : Prims) (a_0 : Sl) (b_1 : Sl) (k_5 : Int) (w : World) (Q : Exit → Env → World → Prop) : Prop :=
  pr.loop (S4 pr Q) (emb4 a_0 b_1 k_5) w
def E (pr : Prims) (a_0 : Sl) (b_1 : Sl) (w : World) (R : Ending → World → Prop) : Prop :=
  wpC pr PP cfg (DD pr) (codeOf Try.f81) (retQ Try.f81.results.toList R) (argE 0 [Sl.v a_0, Sl.v b_1]) w
theorem B4_eq (pr : Prims) (a_0 : Sl) (b_1 : Sl) (k_5 : Int) (w : World) (k : Env → World → Prop) (Q : Exit → Env → World → Prop) : B4 pr a_0 b_1 k_5 w k Q = (
  bif decide (k_5 < (a_0.n : Int)) then (
  pr.idxK 1 a_0 k_5 fun (a2 : Addr) =>
  pr.load1 (.int .i64) a2 w fun (ξ3 : Int) =>
  pr.idxK 1 b_1 k_5 fun (a4 : Addr) =>
  pr.load1 (.int .i64) a4 w fun (ξ5 : Int) =>
  pr.drewAll w fun ω6 =>
  bif ξ3 != ξ5 then (
  Q .ret [(4, .bool false)] ω6)
  else (
  k (emb4 a_0 b_1 (w64 (k_5 + 1))) ω6))
  else (
  Q (.exit 0) (x0) w)) := by kernel_rfl
theorem B4_s (a_0 : Sl) (b_1 : Sl) (k_5 : Int) (w : World) (k : Env → World → Prop) (Q : Exit → Env → World → Prop) : B4 std a_0 b_1 k_5 w k Q = (
  bif decide (k_5 < (a_0.n : Int)) then (
  idxK 1 a_0 k_5 fun (a2 : Addr) =>
  load1 (.int .i64) a2 w fun (ξ3 : Int) =>
  idxK 1 b_1 k_5 fun (a4 : Addr) =>
  load1 (.int .i64) a4 w fun (ξ5 : Int) =>
  drewAll w fun ω6 =>
  bif ξ3 != ξ5 then (
  Q .ret [(4, .bool false)] ω6)
  else (
  k (emb4 a_0 b_1 (w64 (k_5 + 1))) ω6))
  else (
  Q (.exit 0) (x0) w)) := B4_eq std a_0 b_1 k_5 w k Q
theorem L4_rule (a_0 : Sl) (b_1 : Sl) (k_5 : Int) (w : World) (Q : Exit → Env → World → Prop) (I : Int → World → Prop) (μ : Int → World → Nat) (h0 : I k_5 w)
    (h : ∀ (k_5 : Int) (w' : World), I k_5 w' → B4 std a_0 b_1 k_5 w' (fun e2 w2 => ∃ k_5_n, e2 = emb4 a_0 b_1 k_5_n ∧ I k_5_n w2 ∧ μ k_5_n w2 < μ k_5 w') Q) :
    L4 std a_0 b_1 k_5 w Q := by
  unfold L4
  refine LoopE.intro (σ := Int) (step := S4 std Q) (fun s => emb4 a_0 b_1 s) (fun s w => I s w) (fun s w => μ s w) k_5 rfl h0 ?_
  intro s w' hI
  have h1 := h s w' hI
  unfold B4 at h1
  exact h1
theorem A4_0_eq (pr : Prims) (w : World) (R : Ending → World → Prop) : (q1 pr R) (.exit 0) (x0) w = (
  R (.returned (.bool true)) w) := by kernel_rfl
theorem A4_0_s (w : World) (R : Ending → World → Prop) : (q1 std R) (.exit 0) (x0) w = (
  R (.returned (.bool true)) w) := A4_0_eq std w R
theorem R4_eq (pr : Prims) (v4 : Value) (w : World) (R : Ending → World → Prop) : (q1 pr R) .ret [(4, v4)] w = (
  R (.returned (v4)) w) := by kernel_rfl
theorem R4_s (v4 : Value) (w : World) (R : Ending → World → Prop) : (q1 std R) .ret [(4, v4)] w = (
  R (.returned (v4)) w) := R4_eq std v4 w R
theorem E_eq (pr : Prims) (a_0 : Sl) (b_1 : Sl) (w : World) (R : Ending → World → Prop) : E pr a_0 b_1 w R = (
  bif (a_0.n : Int) != (b_1.n : Int) then (
  R (.returned (.bool false)) w)
  else (
  L4 pr a_0 b_1 0 w (q1 pr R))) := by kernel_rfl
theorem E_s (a_0 : Sl) (b_1 : Sl) (w : World) (R : Ending → World → Prop) : E std a_0 b_1 w R = (
  bif (a_0.n : Int) != (b_1.n : Int) then (
  R (.returned (.bool false)) w)
  else (
  L4 std a_0 b_1 0 w (q1 std R))) := E_eq std a_0 b_1 w R
theorem drawsOk : drawsOk PP cfg okD (codeOf Try.f81) = true := by kernel_rfl
theorem calls (a_0 : Sl) (b_1 : Sl) {w : World} {R : Ending → World → Prop} (h : E std a_0 b_1 w R) : Calls PP F.spec_l2Same #[Sl.v a_0, Sl.v b_1] w R :=
  calls_of noCount mixed drawOk Try.func81 rfl (c := cfg) (args := [Sl.v a_0, Sl.v b_1]) rfl (Nat.le_of_ble_eq_true (by kernel_rfl)) drawsOk h
end spec_l2Same

end Go.Proofs.Ytdchjhhpbdekeaa

/- The model's equality of rows. -/
namespace Go.Proofs.Ytdchjhhpbdekeaa
open Go Go.RowKit
set_option maxRecDepth 100000

theorem c_l2Same {w : World} {a b : Sl} {L M : List Int} (ha : RowI w a L) (hb : RowI w b M) (hL : L.length < 2^39) : Quiet F.spec_l2Same #[a.v, b.v] w (.bool (decide (L = M))) := by
  intro w1 hd
  have han : a.n = L.length := by have := ha.n; simpa using this
  have hbn : b.n = M.length := by have := hb.n; simpa using this
  refine spec_l2Same.calls a b ?_
  rw [spec_l2Same.E_s]
  refine bif_intro (fun h => ?_) (fun h => ?_)
  · have : L.length ≠ M.length := by simp at h; omega
    have : L ≠ M := fun e => this (by rw [e])
    exact ⟨by simp [this], Drew.refl _⟩
  have hlen : L.length = M.length := by simp at h; omega
  refine spec_l2Same.L4_rule _ _ _ _ _ (I := fun i w' => 0 ≤ i ∧ i ≤ L.length ∧ (∀ k, k < i.toNat → L[k]? = M[k]?) ∧ Drew w1 w') (μ := fun i _ => (L.length - i).toNat)
    ⟨by omega, by omega, fun k hk => by simp at hk, Drew.refl _⟩ ?_
  rintro i w' ⟨h0, hi, hall, hd2⟩
  have hh : w'.heap = w.heap := (hd.trans hd2).heap'
  rw [spec_l2Same.B4_s]
  refine bif_dec (fun h3 => ?_) (fun h3 => ?_)
  · have hlt : i.toNat < L.length := by omega
    have hlt2 : i.toNat < M.length := by omega
    refine RowI.get (ha.heap hh) h0 (by omega) ?_
    refine RowI.get (hb.heap hh) h0 (by omega) ?_
    refine drew_intro fun w3 hd3 => ?_
    rw [getD_eq hlt, getD_eq hlt2]
    refine bif_intro (fun h4 => ?_) (fun h4 => ?_)
    · have : L ≠ M := fun e => by subst e; simp at h4
      rw [spec_l2Same.R4_s]
      exact ⟨by simp [this], hd2.trans hd3⟩
    · have h4 : L[i.toNat] = M[i.toNat] := by simpa using h4
      refine ⟨i + 1, by rw [w64_succ h0 (by omega)], ⟨by omega, by omega, fun k hk => ?_, hd2.trans hd3⟩, by omega⟩
      by_cases hk2 : k < i.toNat
      · exact hall k hk2
      · have : k = i.toNat := by omega
        subst this
        rw [List.getElem?_eq_getElem hlt, List.getElem?_eq_getElem hlt2, h4]
  · rw [spec_l2Same.A4_0_s]
    have : L = M := by
      apply List.ext_getElem?
      intro k
      by_cases hk : k < L.length
      · exact hall k (by omega)
      · rw [List.getElem?_eq_none (by omega), List.getElem?_eq_none (by omega)]
    exact ⟨by simp [this], hd2⟩
end Go.Proofs.Ytdchjhhpbdekeaa

/- PermOfTableaux: the model's text. -/
namespace Go.Proofs.Ytdchjhhpbdekeaa
open Go Go.RowKit
set_option maxRecDepth 100000

theorem IsTab.wtab {T : List (List Int)} (h : IsTab T) : WTab T := by
  refine ⟨fun r hr => ?_, fun r hr => ⟨?_, fun j hj => ?_⟩⟩
  · refine Inc.of_getD fun i j hij hj => ?_
    obtain ⟨d, rfl⟩ : ∃ d, j = i + 1 + d := ⟨j - (i + 1), by omega⟩
    induction d with
    | zero => exact (h.strict hr hj).1 (by omega)
    | succ d ih =>
      have h1 := ih (by omega) (by omega)
      have h2 := (h.strict hr hj).1 (by omega)
      rw [show i + 1 + (d + 1) - 1 = i + 1 + d by omega] at h2
      have h2' : (T.getD r []).getD (i + 1 + d) 0 < (T.getD r []).getD (i + 1 + (d + 1)) 0 := h2
      omega
  · have := h.form.step (i := r + 1) hr (by omega)
    exact this
  · have := (h.strict (i := r + 1) hr hj).2 (by omega)
    exact this
theorem PotS.start {a b : List (List Int)} (ha : IsTab a) (hb : IsTab b) (he : lens a = lens b) : PotS b (tot b) a b := by
  have hl : a.length = b.length := by have := congrArg List.length he; simpa [lens_length] using this
  refine ⟨ha.wtab, ha.perm.nodup, hb.wtab, ?_, hl, rfl, fun r => ?_, fun r => List.prefix_refl _⟩
  · have h1 := permOk_iff.1 hb.perm.2
    refine perm_of_nodup h1.1 (fun x hx => ?_) (flatten_length b)
    have := h1.2 x hx
    rw [flatten_length] at this
    exact this
  · have := congrArg (fun l => l.getD r 0) he
    simp only [lens_getD] at this
    omega
open Classical in
noncomputable def PermOfTableauxV (a b : List (List Int)) : List Int := if IsTab a ∧ IsTab b ∧ lens a = lens b then popT b (tot b) a else []
open Classical in
noncomputable def PermOfTableauxV1 (a b : List (List Int)) : Bool := decide (IsTab a ∧ IsTab b ∧ lens a = lens b)
theorem c_l19Row {w : World} {a : Sl} {LL : List (List Int)} (ha : RowSS w a LL) (hL : LL.length < 2^38) (ht : tot LL < 2^38) (n : Int) :
    Calls PP F.spec_l19Row #[a.v, vI n] w fun e w' => e = .returned (vI (rowOf LL n)) ∧ Below w.heap.size w w' := by
  have han := ha.n
  refine spec_l19Row.calls a n ?_
  rw [spec_l19Row.E_s]
  refine spec_l19Row.L2_rule _ _ _ _ _ (I := fun k w' => 0 ≤ k ∧ k ≤ LL.length ∧ (∀ j (hj : j < LL.length), j < k.toNat → LL[j].contains n = false) ∧ Below w.heap.size w w') (μ := fun k _ => (LL.length - k).toNat) ⟨by omega, by omega, fun j _ hj => by simp at hj, Below.refl _ _⟩ ?_
  rintro k w2 ⟨h0, hk, hall, hb⟩
  rw [spec_l19Row.B2_s, han]
  refine bif_dec (fun h3 => ?_) (fun h3 => ?_)
  · have hlt : k.toNat < LL.length := by omega
    have h40 := len_le_tot (List.getElem_mem hlt)
    refine RowSS.get (ha.grow hb) h0 (by omega) fun r hr => ?_
    rw [getD_SS hlt] at hr
    refine Quiet.call1 (s := .bool) (c_l2Has hr (by omega) n) ?_
    intro w3 hd3
    have hb3 := hb.trans (hd3.below _)
    refine bif_intro (fun h4 => ?_) (fun h4 => ?_)
    · rw [spec_l19Row.R2_s]
      refine ⟨?_, hb3⟩
      have hf : LL.findIdx (fun R => R.contains n) = k.toNat := by
        rw [List.findIdx_eq hlt]
        exact ⟨by simpa using h4, fun j hj => hall j (by omega) hj⟩
      rw [rowOf, hf, if_pos hlt]
      congr 2; omega
    · refine ⟨k + 1, by rw [w64_succ h0 (by omega)], ⟨by omega, by omega, fun j hj1 hj => ?_, hb3⟩, by omega⟩
      by_cases e : j = k.toNat
      · subst e; simpa using h4
      · exact hall j hj1 (by omega)
  · rw [spec_l19Row.A2_0_s]
    refine ⟨?_, hb⟩
    have : ¬ LL.findIdx (fun R => R.contains n) < LL.length := fun hh => by
      have h5 := List.findIdx_getElem (w := hh)
      rw [hall _ hh (by omega)] at h5
      cases h5
    rw [rowOf, if_neg this]; rfl
theorem c_l19Take {w : World} {B : Nat} {t : Sl} {rs : List Sl} {T : List (List Int)} (h : OwnRows w B t rs T) (hB : B ≤ w.heap.size) (hT : T.length < 2^38) (hR : ∀ r, (T.getD r []).length < 2^38) {r : Nat} (hr : r < T.length) (h0 : 0 < (T.getD r []).length)
    (hq : BQ (T.set r ((T.getD r []).take ((T.getD r []).length - 1))) ((T.getD r []).getD ((T.getD r []).length - 1) 0) r) :
    Calls PP F.spec_l19Take #[t.v, vI r] w fun e w' => e = .returned (vI (takeAt T r).2) ∧ ∃ rs', OwnRows w' B t rs' (takeAt T r).1 ∧ Stp w w' (foot t rs) (foot t rs') := by
  have hRr := hR r
  refine spec_l19Take.calls t r ?_
  rw [spec_l19Take.E_s]
  obtain ⟨ρ, hρi, hρ⟩ := h.get hr
  have hρn : ρ.n = (T.getD r []).length := by have := hρ.n; simpa using this
  have hm := List.mem_of_getElem? hρi
  have ld : ∀ {K : Sl → Prop}, K ρ → idxK 1 t (r : Int) fun a => load1 .sl a w K := fun {K} hk => Row.get (sh := .sl) (r := ρ) h.out.row (by omega) (by rw [List.getElem?_map, Int.toNat_natCast, hρi]; rfl) hk
  refine ld ?_
  refine ld ?_
  rw [hρn, w64_id (n := ((T.getD r []).length : Int) - 1) (by omega) (by omega)]
  have elast : (((T.getD r []).length : Int) - 1).toNat = (T.getD r []).length - 1 := by omega
  refine RowI.get hρ.row (by omega) (by omega) ?_
  rw [elast]
  refine ld ?_
  refine Own.pop hρ (by omega) (by rw [List.length_map]; omega) fun s hs hblk => ?_
  rw [elast, ← List.map_take] at hs
  refine OwnRows.storeK (S := fun _ => False) h (by omega) (by omega) (t := ρ) (by rw [Int.toNat_natCast]; exact hρi) (Keeps.refl _ _) (fun _ _ hh => hh.elim) hs (fun g hg => .inl (by rw [← hblk]; exact hg)) fun w1 h1 hg1 st1 => ?_
  rw [Int.toNat_natCast] at h1 st1
  have hB1 : B ≤ w1.heap.size := Nat.le_trans hB st1.keeps.size
  have st1' : Stp w w1 (foot t rs) (foot t (rs.set r s)) := ⟨st1.keeps.mono fun k e => e.elim False.elim id, fun g hg => (st1.next g hg).imp (fun e => e.elim False.elim id) id⟩
  rw [w64_id (n := (r : Int) - 1) (by omega) (by omega)]
  refine spec_l19Take.L5_rule _ _ _ _ _ (I := fun n q w' => -1 ≤ q ∧ q < r ∧ B ≤ w'.heap.size ∧ ∃ T1, OwnRows w' B t (rs.set r s) T1 ∧ T1.length = T.length ∧ (∀ i, (T1.getD i []).length < 2^38) ∧ BQ T1 n (q + 1).toNat ∧ bumpUp T1 n (q + 1).toNat = takeAt T r ∧ Stp w w' (foot t rs) (foot t (rs.set r s)))
    (μ := fun _ q _ => (q + 1).toNat) ⟨by omega, by omega, hB1, _, h1, by rw [List.length_set], fun i => ?_, by rw [show ((r : Int) - 1 + 1).toNat = r by omega]; exact hq, by rw [show ((r : Int) - 1 + 1).toNat = r by omega]; rfl, st1'⟩ ?_
  · rw [getD_setR]
    split
    · rw [List.length_take]; omega
    · exact hR i
  rintro n q w2 ⟨hq0, hqr, hB2, T1, ho, hl1, hR1, hbq, heq, st⟩
  rw [spec_l19Take.B5_s]
  refine bif_dec (fun h3 => ?_) (fun h3 => ?_)
  · have hqs : (q + 1).toNat = q.toNat + 1 := by omega
    rw [hqs] at hbq heq
    obtain ⟨a1, a2, a3, a4⟩ := hbq.at_
    have hRq := hR1 q.toNat
    refine ho.load h3 (by omega) fun ρ2 hρ2 ho2 => ?_
    have hρ2n : ρ2.n = (T1.getD q.toNat []).length := by have := ho2.n; simpa using this
    rw [hρ2n, w64_id (n := ((T1.getD q.toNat []).length : Int) - 1) (by omega) (by omega)]
    refine spec_l19Take.L8_rule _ _ _ _ _ _ (I := fun c w' => w' = w2 ∧ 0 ≤ c ∧ c < (T1.getD q.toNat []).length ∧ dn (T1.getD q.toNat []) n c.toNat = dn (T1.getD q.toNat []) n ((T1.getD q.toNat []).length - 1)) (μ := fun c _ => c.toNat)
      ⟨rfl, by omega, by omega, by rw [show (((T1.getD q.toNat []).length : Int) - 1).toNat = (T1.getD q.toNat []).length - 1 by omega]⟩ ?_
    rintro c w3 ⟨rfl, hc0, hcl, hcd⟩
    have hdle := dn_le (T1.getD q.toNat []) n c.toNat
    rw [spec_l19Take.B8_s]
    refine ho.load h3 (by omega) fun ρ3 _ ho3 => ?_
    refine RowI.get ho3.row hc0 (by omega) ?_
    refine bif_dec (fun h4 => ?_) (fun h4 => ?_)
    · have hc1 : c.toNat ≠ 0 := by
        intro e
        rw [e] at hcd h4
        rw [← hcd, dn] at a4
        omega
      refine ⟨c - 1, by rw [w64_id (by omega) (by omega)], ⟨rfl, by omega, by omega, ?_⟩, by omega⟩
      rw [← hcd]
      obtain ⟨d, hd⟩ : ∃ d, c.toNat = d + 1 := ⟨c.toNat - 1, by omega⟩
      rw [hd] at h4 ⊢
      rw [show (c - 1).toNat = d by omega, dn, if_pos h4]
    · have hcd' : c.toNat = dn (T1.getD q.toNat []) n ((T1.getD q.toNat []).length - 1) := by
        rw [← hcd]
        rcases Nat.eq_zero_or_pos c.toNat with e | e
        · rw [e]; rfl
        · obtain ⟨d, hd⟩ : ∃ d, c.toNat = d + 1 := ⟨c.toNat - 1, by omega⟩
          rw [hd] at h4 ⊢
          rw [dn, if_neg h4]
      rw [spec_l19Take.A8_2_s]
      refine ho.load h3 (by omega) fun ρ4 _ ho4 => ?_
      refine RowI.get ho4.row hc0 (by omega) ?_
      refine ho.setAtF h3 (by omega) hc0 (by omega) fun w4 ho5 hst hz => ?_
      rw [hcd'] at ho5 ⊢
      refine ⟨_, q - 1, by rw [w64_id (by omega) (by omega)], ⟨by omega, by omega, by omega, _, ho5, by rw [List.length_set]; exact hl1, fun i => ?_, by rw [show (q - 1 + 1).toNat = q.toNat by omega]; exact hbq.step, by rw [show (q - 1 + 1).toNat = q.toNat by omega]; rw [← heq, bumpUp], st.trans hst⟩, by omega⟩
      rw [getD_setR]
      split
      · rw [List.length_set]; exact hRq
      · exact hR1 i
  · rw [spec_l19Take.A5_0_s]
    rw [show (q + 1).toNat = 0 by omega, bumpUp] at heq
    rw [← heq]
    exact ⟨rfl, _, ho, st⟩
open Classical in
theorem c_specPermOfTableauxO {w : World} {a b : Sl} {A C : List (List Int)} (ha : RowSS w a A) (hA : A.length < 2^38) (tA : tot A < 2^38) (hb : RowSS w b C) (hC : C.length < 2^38) (tC : tot C < 2^38) :
    Calls PP F.spec_PermOfTableaux #[a.v, b.v] w fun e w' => ∃ s : Sl, e = .returned (.tuple #[s.v, .bool (PermOfTableauxV1 A C)]) ∧ OwnI w' w.heap.size s (PermOfTableauxV A C) ∧ Below w.heap.size w w' := by
  refine spec_PermOfTableaux.calls a b ?_
  rw [spec_PermOfTableaux.E_s]
  have no : ∀ (w1 : World), Below w.heap.size w w1 → ¬ (IsTab A ∧ IsTab C ∧ lens A = lens C) → sem1 .sl PP (Instr.buildSlice T_Sint 0 #[]) w1 fun ρ w2 => ∃ s : Sl, Ending.returned (.tuple #[ρ.v, .bool false]) = .returned (.tuple #[s.v, .bool (PermOfTableauxV1 A C)]) ∧ OwnI w2 w.heap.size s (PermOfTableauxV A C) ∧ Below w.heap.size w w2 := by
    intro w1 hb1 hn
    refine lit0 oneInt hb1.size ?_
    intro s w2 hs hg _
    rw [PermOfTableauxV, PermOfTableauxV1, if_neg hn, decide_eq_false hn]
    exact ⟨s, rfl, by simpa [OwnI] using hs, hb1.trans ((below_of_grow hg).mono hb1.size)⟩
  refine (c_specIsTableau ha hA tA).mono ?_
  rintro e w1 ⟨rfl, hb1⟩
  refine ⟨_, rfl, ?_⟩
  refine bif_intro (fun h => ?_) (fun h => ?_)
  · exact no w1 hb1 fun hh => by simp [IsTableauV, hh.1] at h
  have hTA : IsTab A := by simpa [IsTableauV] using h
  refine (c_specIsTableau (hb.grow hb1) hC tC).mono ?_
  rintro e w2 ⟨rfl, hb2⟩
  refine ⟨_, rfl, ?_⟩
  have hb02 := hb1.trans (hb2.mono hb1.size)
  refine bif_intro (fun h => ?_) (fun h => ?_)
  · exact no w2 hb02 fun hh => by simp [IsTableauV, hh.2.1] at h
  have hTC : IsTab C := by simpa [IsTableauV] using h
  refine (c_l19Lengths (ha.grow hb02) hA tA).mono ?_
  rintro e w3 ⟨s3, rfl, hs3, hb3⟩
  refine ⟨s3, rfl, ?_⟩
  have hb03 := hb02.trans (hb3.mono hb02.size)
  refine (c_l19Lengths (hb.grow hb03) hC tC).mono ?_
  rintro e w4 ⟨s4, rfl, hs4, hb4⟩
  refine ⟨s4, rfl, ?_⟩
  have hb04 := hb03.trans (hb4.mono hb03.size)
  refine Quiet.call1 (s := .bool) (c_l2Same (hs3.row.grow hb4) hs4.row (by rw [lens_length]; omega)) ?_
  intro w5 hd5
  have hb05 := hb04.trans (hd5.below _)
  refine bif_intro (fun h => ?_) (fun h => ?_)
  · exact no w5 hb05 fun hh => by simp [hh.2.2] at h
  have hE : lens A = lens C := by simpa using h
  rw [PermOfTableauxV, PermOfTableauxV1, if_pos ⟨hTA, hTC, hE⟩, decide_eq_true (show IsTab A ∧ IsTab C ∧ lens A = lens C from ⟨hTA, hTC, hE⟩)]
  have hn8 := hTC.form.count
  have ht8 := hTC.form.tot
  refine (c_l2Copy (ha.grow hb05) hA tA).mono ?_
  rintro e w6 ⟨t, rt, rfl, ht, hb6⟩
  refine ⟨t, rfl, ?_⟩
  have hb06 := hb05.trans (hb6.mono hb05.size)
  have hbn := hb.n
  refine spec_PermOfTableaux.L6_rule _ _ _ _ _ _ (I := fun z r w' => w' = w6 ∧ 0 ≤ r ∧ r ≤ C.length ∧ z = (tot (C.take r.toNat) : Int)) (μ := fun _ r _ => (C.length - r).toNat) ⟨rfl, by omega, by omega, by simp [tot_nil]⟩ ?_
  rintro z r w7 ⟨rfl, hr0, hr, rfl⟩
  rw [spec_PermOfTableaux.B6_s, hbn]
  refine bif_dec (fun h3 => ?_) (fun h3 => ?_)
  · have hlt : r.toNat < C.length := by omega
    refine RowSS.get (hb.grow hb06) hr0 (by omega) fun ρ hρ => ?_
    have hρn : ρ.n = (C.getD r.toNat []).length := by have := hρ.n; simpa using this
    have h4 := tot_take_succ hlt
    have h5 := tot_take_le C (r.toNat + 1)
    refine ⟨_, r + 1, by rw [w64_succ hr0 (by omega), w64_id (by omega) (by omega)], ⟨rfl, by omega, by omega, ?_⟩, by omega⟩
    rw [show (r + 1).toNat = r.toNat + 1 by omega, h4, hρn]; omega
  rw [spec_PermOfTableaux.A6_0_s]
  rw [show r.toNat = C.length by omega, List.take_length]
  refine make_own oneInt (B := w.heap.size) hb06.size (by omega) (by omega) ?_
  intro o w8 ho hg8 hn8'
  rw [Int.toNat_natCast] at ho
  have hb8 := below_of_grow hg8
  have hob : ∀ g, o.blk = some g → w7.heap.size ≤ g := fun g hg => (hn8' g hg).elim (fun e => by simp [Sl.blk, Sl.nil] at e) id
  refine spec_PermOfTableaux.L11_rule _ _ _ _ _ _ (I := fun k w' => 0 ≤ k ∧ k ≤ tot C ∧ Below w.heap.size w w' ∧ ∃ rs T D tl, PotS C k.toNat T D ∧ OwnRows w' w.heap.size t rs T ∧ OwnI w' w.heap.size o (List.replicate k.toNat 0 ++ tl) ∧ (∀ g, foot t rs g → o.blk ≠ some g) ∧ popT C k.toNat T ++ tl = popT C (tot C) A) (μ := fun k _ => k.toNat)
    ⟨by omega, by omega, hb06.trans (hb8.mono hb06.size), rt, A, C, [], ?_, (ht.grow hb8).mono hb05.size, by simpa [OwnI] using ho, fun g hg e => by have := hob g e; have := (ht.footLt hg).2; omega, by simp⟩ ?_
  · rw [Int.toNat_natCast]; exact PotS.start hTA hTC hE
  rintro k w9 ⟨hk0, hk, hb9, rs, T, D, tl, hp, hot, hoo, hdis, heq⟩
  rw [spec_PermOfTableaux.B11_s]
  refine bif_dec (fun h4 => ?_) (fun h4 => ?_)
  · obtain ⟨k', rfl⟩ : ∃ k' : Nat, k = (k' : Int) + 1 := ⟨(k - 1).toNat, by omega⟩
    have ek : ((k' : Int) + 1).toNat = k' + 1 := by omega
    rw [ek] at hp hoo heq
    obtain ⟨r2, hN⟩ := hp.step hTC.perm.nodup
    refine (c_l19Row (hb.grow hb9) hC tC _).mono ?_
    rintro e w10 ⟨rfl, hb10⟩
    refine ⟨_, rfl, ?_⟩
    rw [hN.row]
    have hb010 := hb9.trans (hb10.mono hb9.size)
    have hrT : r2 < T.length := by have := hp.lt; have := hN.lt; omega
    have hlen : ∀ i, (T.getD i []).length < 2^38 := fun i => by
      rw [hp.same]
      rcases Nat.lt_or_ge i D.length with h5 | h5
      · have h6 := flat_tab (T := D) (R := D.getD i []) (by rw [getD_SS h5]; exact List.getElem_mem h5)
        have h7 := hp.pc.length_eq
        rw [idn_length] at h7
        omega
      · rw [List.getD_eq_getElem?_getD, List.getElem?_eq_none h5]; simp
    refine (c_l19Take (hot.grow hb10) hb010.size (by have := hp.lt; omega) hlen hrT (by rw [hp.same]; exact hN.posC) hN.bq).mono ?_
    rintro e w11 ⟨rfl, rs', hot', hst⟩
    refine ⟨_, rfl, ?_⟩
    rw [w64_id (n := (k' : Int) + 1 - 1) (by omega) (by omega), show (k' : Int) + 1 - 1 = k' by omega]
    have hoo10 : OwnI w10 w.heap.size o (List.replicate (k' + 1) 0 ++ tl) := Own.grow hoo hb10
    have hoo11 : OwnI w11 w.heap.size o (List.replicate (k' + 1) 0 ++ tl) := Own.keeps hoo10 hst.keeps fun g h1 h2 => hdis g h2 h1
    have hb011 := hb010.trans (hst.below (fun g hg => (hot.footLt hg).1) hb010.size)
    refine Own.put hoo11 (by omega) (by simp; omega) ?_
    intro w12 hoo12 hg12 _
    have hdis11 : ∀ g, foot t rs' g → ¬ o.blk = some g := hst.apart (F := fun g => o.blk = some g) (fun g hg => (hoo10.lt g hg).2) fun g h1 h2 => hdis g h1 h2
    refine ⟨(k' : Int), rfl, ⟨by omega, by omega, hb011.grown hg12 hb011.size (fun g hg => (hoo11.lt g hg).1), rs', _, _, (takeAt T r2).2 :: tl, by rw [Int.toNat_natCast]; exact hN.next, hot'.keepsF (keeps_grown hg12) fun g h1 h2 => hdis11 g h1 h2, ?_, hdis11, ?_⟩, by omega⟩
    · rw [Int.toNat_natCast] at hoo12 ⊢
      have e1 : (List.replicate (k' + 1) (0 : Int) ++ tl).set k' (takeAt T r2).2 = List.replicate k' 0 ++ (takeAt T r2).2 :: tl := by
        rw [List.replicate_succ', List.append_assoc, List.set_append_right _ _ (by simp)]
        simp
      rw [← e1]
      simpa [OwnI, List.map_set] using hoo12
    · rw [Int.toNat_natCast, ← heq, popT, hN.row]; simp
  · rw [spec_PermOfTableaux.A11_2_s]
    rw [show k.toNat = 0 by omega] at hoo heq
    rw [← heq]
    exact ⟨o, rfl, by simpa [popT] using hoo, hb9⟩
open Classical in
theorem c_specPermOfTableaux {w : World} {a b : Sl} {A C : List (List Int)} (ha : RowSS w a A) (hA : A.length < 2^38) (tA : tot A < 2^38) (hb : RowSS w b C) (hC : C.length < 2^38) (tC : tot C < 2^38) :
    Calls PP F.spec_PermOfTableaux #[a.v, b.v] w fun e w' => ∃ s : Sl, e = .returned (.tuple #[s.v, .bool (PermOfTableauxV1 A C)]) ∧ RowI w' s (PermOfTableauxV A C) ∧ Below w.heap.size w w' :=
  (c_specPermOfTableauxO ha hA tA hb hC tC).mono fun _ _ ⟨s, h1, h2, h3⟩ => ⟨s, h1, h2.row, h3⟩
end Go.Proofs.Ytdchjhhpbdekeaa

/- What each function does, step by step, written by a program (Gen.lean); each equation is checked by the kernel. -/
namespace Go.Proofs.Ytdchjhhpbdekeaa
open Go
set_option linter.unusedVariables false
set_option maxRecDepth 100000
namespace slices_IndexFunc_____int___int_
@[reducible] def cfg : Cfg := ⟨19, [(2, [0, 1, 7, 8])], [(1, [0, 1, 7, 8]), (0, [])], [], [4], [], [101, 107, 112, 15, 21, 124, 76, 137, 28, 115, 91, 81, 130], [138, 140, 82, 6, 86, 85, 132]⟩
def q0 (pr : Prims) (R : Ending → World → Prop) : Exit → Env → World → Prop := fun ex e w => normQ ex (fun e w => contE pr cfg (sub (codeOf Try.f106) [1, 1]) (fun e w => wpC pr PP cfg (DD pr) (sub (codeOf Try.f106) [1, 1]) (retQ Try.f106.results.toList R) e w) e w) (retQ Try.f106.results.toList R) e w
def q1 (pr : Prims) (R : Ending → World → Prop) : Exit → Env → World → Prop := fun ex e w => blockQ ex 0 (q0 pr R) e w
def emb2 (s_0 : Sl) (f_1 : Value) (t7 : Int) (t8 : Int) : Env := [(0, Sl.v s_0), (1, f_1), (7, vI t7), (8, vI t8)]
def x0 : Env := []
def S2 (pr : Prims) (Q : Exit → Env → World → Prop) : (Env → World → Prop) → Env → World → Prop := fun k e w => wpC pr PP cfg (DD pr) (sub (codeOf Try.f106) [1, 0, 1, 0, 0]) (fun ex e w => normQ ex (fun e' w' => k (Env.restr e' (lookN cfg.loops (keyOf (sub (codeOf Try.f106) [1, 0, 1, 0, 0])))) w') Q e w) e w
def B2 (pr : Prims) (s_0 : Sl) (f_1 : Value) (t7 : Int) (t8 : Int) (w : World) (k : Env → World → Prop) (Q : Exit → Env → World → Prop) : Prop :=
  S2 pr Q k (emb2 s_0 f_1 t7 t8) w
def L2 (pr : Prims) (s_0 : Sl) (f_1 : Value) (t7 : Int) (t8 : Int) (w : World) (Q : Exit → Env → World → Prop) : Prop :=
  pr.loop (S2 pr Q) (emb2 s_0 f_1 t7 t8) w
def E (pr : Prims) (s_0 : Sl) (f_1 : Value) (w : World) (R : Ending → World → Prop) : Prop :=
  wpC pr PP cfg (DD pr) (codeOf Try.f106) (retQ Try.f106.results.toList R) (argE 0 [Sl.v s_0, f_1]) w
theorem B2_eq (pr : Prims) (s_0 : Sl) (f_1 : Value) (t7 : Int) (t8 : Int) (w : World) (k : Env → World → Prop) (Q : Exit → Env → World → Prop) : B2 pr s_0 f_1 t7 t8 w k Q = (
  bif decide (t8 < t7) then (
  pr.idxK 1 s_0 t8 fun (a2 : Addr) =>
  pr.load1 .sl a2 w fun (ξ3 : Sl) =>
  pr.callV1 .bool PP (f_1) [Sl.v ξ3] w fun (ρ4 : Bool) ω5 =>
  bif ρ4 then (
  Q .ret [(4, vI t8)] ω5)
  else (
  k (emb2 s_0 f_1 t7 (w64 (t8 + 1))) ω5))
  else (
  Q (.exit 0) (x0) w)) := by kernel_rfl
theorem B2_s (s_0 : Sl) (f_1 : Value) (t7 : Int) (t8 : Int) (w : World) (k : Env → World → Prop) (Q : Exit → Env → World → Prop) : B2 std s_0 f_1 t7 t8 w k Q = (
  bif decide (t8 < t7) then (
  idxK 1 s_0 t8 fun (a2 : Addr) =>
  load1 .sl a2 w fun (ξ3 : Sl) =>
  callV1 .bool PP (f_1) [Sl.v ξ3] w fun (ρ4 : Bool) ω5 =>
  bif ρ4 then (
  Q .ret [(4, vI t8)] ω5)
  else (
  k (emb2 s_0 f_1 t7 (w64 (t8 + 1))) ω5))
  else (
  Q (.exit 0) (x0) w)) := B2_eq std s_0 f_1 t7 t8 w k Q
theorem L2_rule (s_0 : Sl) (f_1 : Value) (t7 : Int) (t8 : Int) (w : World) (Q : Exit → Env → World → Prop) (I : Int → World → Prop) (μ : Int → World → Nat) (h0 : I t8 w)
    (h : ∀ (t8 : Int) (w' : World), I t8 w' → B2 std s_0 f_1 t7 t8 w' (fun e2 w2 => ∃ t8_n, e2 = emb2 s_0 f_1 t7 t8_n ∧ I t8_n w2 ∧ μ t8_n w2 < μ t8 w') Q) :
    L2 std s_0 f_1 t7 t8 w Q := by
  unfold L2
  refine LoopE.intro (σ := Int) (step := S2 std Q) (fun s => emb2 s_0 f_1 t7 s) (fun s w => I s w) (fun s w => μ s w) t8 rfl h0 ?_
  intro s w' hI
  have h1 := h s w' hI
  unfold B2 at h1
  exact h1
theorem A2_0_eq (pr : Prims) (w : World) (R : Ending → World → Prop) : (q1 pr R) (.exit 0) (x0) w = (
  R (.returned (vI (-1))) w) := by kernel_rfl
theorem A2_0_s (w : World) (R : Ending → World → Prop) : (q1 std R) (.exit 0) (x0) w = (
  R (.returned (vI (-1))) w) := A2_0_eq std w R
theorem R2_eq (pr : Prims) (v4 : Value) (w : World) (R : Ending → World → Prop) : (q1 pr R) .ret [(4, v4)] w = (
  R (.returned (v4)) w) := by kernel_rfl
theorem R2_s (v4 : Value) (w : World) (R : Ending → World → Prop) : (q1 std R) .ret [(4, v4)] w = (
  R (.returned (v4)) w) := R2_eq std v4 w R
theorem E_eq (pr : Prims) (s_0 : Sl) (f_1 : Value) (w : World) (R : Ending → World → Prop) : E pr s_0 f_1 w R = (
  L2 pr s_0 f_1 (s_0.n : Int) 0 w (q1 pr R)) := by kernel_rfl
theorem E_s (s_0 : Sl) (f_1 : Value) (w : World) (R : Ending → World → Prop) : E std s_0 f_1 w R = (
  L2 std s_0 f_1 (s_0.n : Int) 0 w (q1 std R)) := E_eq std s_0 f_1 w R
theorem drawsOk : drawsOk PP cfg okD (codeOf Try.f106) = true := by kernel_rfl
theorem calls (s_0 : Sl) (f_1 : Value) {w : World} {R : Ending → World → Prop} (h : E std s_0 f_1 w R) : Calls PP F.slices_IndexFunc_____int___int_ #[Sl.v s_0, f_1] w R :=
  calls_of noCount mixed drawOk Try.func106 rfl (c := cfg) (args := [Sl.v s_0, f_1]) rfl (Nat.le_of_ble_eq_true (by kernel_rfl)) drawsOk h
end slices_IndexFunc_____int___int_

end Go.Proofs.Ytdchjhhpbdekeaa

/- The library's IndexFunc over rows of rows. -/
namespace Go.Proofs.Ytdchjhhpbdekeaa
open Go Go.RowKit
set_option maxRecDepth 100000

theorem c_IndexFuncS {w : World} {a : Sl} {LL : List (List Int)} (ha : RowSS w a LL) (hL : LL.length < 2^38) {f : Value} {φ : List Int → Bool} (hf : ∀ L ∈ LL, ∀ r, RowI w r L → FnB w f [r.v] (φ L)) :
    Calls PP F.slices_IndexFunc_____int___int_ #[a.v, f] w fun e w' => e = .returned (vI (idxF φ LL)) ∧ Below w.heap.size w w' := by
  have han := ha.n
  refine slices_IndexFunc_____int___int_.calls a f ?_
  rw [slices_IndexFunc_____int___int_.E_s, han]
  refine slices_IndexFunc_____int___int_.L2_rule _ _ _ _ _ _ (I := fun k w' => 0 ≤ k ∧ k ≤ LL.length ∧ Below w.heap.size w w' ∧ ∀ j (hj : j < LL.length), j < k.toNat → φ LL[j] = false) (μ := fun k _ => (LL.length - k).toNat)
    ⟨by omega, by omega, Below.refl _ _, fun j _ hj => by simp at hj⟩ ?_
  rintro k w' ⟨h0, hk, hb, hall⟩
  rw [slices_IndexFunc_____int___int_.B2_s]
  refine bif_dec (fun h3 => ?_) (fun h3 => ?_)
  · have hlt : k.toNat < LL.length := by omega
    refine RowSS.getB ha hb h0 (by omega) fun r hr => ?_
    rw [getD_SS hlt] at hr
    refine (hf _ (List.getElem_mem hlt) r hr).callV1 hb ?_
    intro w2 hb2
    refine bif_intro (fun h4 => ?_) (fun h4 => ?_)
    · rw [slices_IndexFunc_____int___int_.R2_s]
      refine ⟨?_, hb.trans (hb2.mono hb.size)⟩
      rw [idxF_at hlt h4 (fun j hj => hall j (by omega) hj)]
      congr 2; omega
    · refine ⟨k + 1, by rw [w64_succ h0 (by omega)], ⟨by omega, by omega, hb.trans (hb2.mono hb.size), fun j hj1 hj => ?_⟩, by omega⟩
      by_cases e : j = k.toNat
      · subst e; exact h4
      · exact hall j hj1 (by omega)
  · rw [slices_IndexFunc_____int___int_.A2_0_s]
    exact ⟨by rw [idxF_none (fun j hj => hall j hj (by omega))], hb⟩
end Go.Proofs.Ytdchjhhpbdekeaa

/- What each function does, step by step, written by a program (Gen.lean); each equation is checked by the kernel. -/
namespace Go.Proofs.Ytdchjhhpbdekeaa
open Go
set_option linter.unusedVariables false
set_option maxRecDepth 100000
namespace slices_Equal___int_int_
@[reducible] def cfg : Cfg := ⟨26, [(4, [0, 1, 12, 13])], [(1, [0, 1, 12, 13]), (0, [])], [], [4], [6], [101, 107, 112, 15, 21, 124, 76, 137, 28, 115, 91, 81, 130], [138, 140, 82, 6, 86, 85, 132]⟩
def q0 (pr : Prims) (R : Ending → World → Prop) : Exit → Env → World → Prop := fun ex e w => normQ ex (fun e w => contE pr cfg (sub (codeOf Try.f76) [1, 1, 1]) (fun e w => wpC pr PP cfg (DD pr) (sub (codeOf Try.f76) [1, 1, 1]) (retQ Try.f76.results.toList R) e w) e w) (retQ Try.f76.results.toList R) e w
def q1 (pr : Prims) (R : Ending → World → Prop) : Exit → Env → World → Prop := fun ex e w => blockQ ex 0 (q0 pr R) e w
def emb4 (s1_0 : Sl) (s2_1 : Sl) (t12 : Int) (t13 : Int) : Env := [(0, Sl.v s1_0), (1, Sl.v s2_1), (12, vI t12), (13, vI t13)]
def x0 : Env := []
def S4 (pr : Prims) (Q : Exit → Env → World → Prop) : (Env → World → Prop) → Env → World → Prop := fun k e w => wpC pr PP cfg (DD pr) (sub (codeOf Try.f76) [1, 1, 0, 1, 0, 0]) (fun ex e w => normQ ex (fun e' w' => k (Env.restr e' (lookN cfg.loops (keyOf (sub (codeOf Try.f76) [1, 1, 0, 1, 0, 0])))) w') Q e w) e w
def B4 (pr : Prims) (s1_0 : Sl) (s2_1 : Sl) (t12 : Int) (t13 : Int) (w : World) (k : Env → World → Prop) (Q : Exit → Env → World → Prop) : Prop :=
  S4 pr Q k (emb4 s1_0 s2_1 t12 t13) w
def L4 (pr : Prims) (s1_0 : Sl) (s2_1 : Sl) (t12 : Int) (t13 : Int) (w : World) (Q : Exit → Env → World → Prop) : Prop :=
  pr.loop (S4 pr Q) (emb4 s1_0 s2_1 t12 t13) w
def E (pr : Prims) (s1_0 : Sl) (s2_1 : Sl) (w : World) (R : Ending → World → Prop) : Prop :=
  wpC pr PP cfg (DD pr) (codeOf Try.f76) (retQ Try.f76.results.toList R) (argE 0 [Sl.v s1_0, Sl.v s2_1]) w
theorem B4_eq (pr : Prims) (s1_0 : Sl) (s2_1 : Sl) (t12 : Int) (t13 : Int) (w : World) (k : Env → World → Prop) (Q : Exit → Env → World → Prop) : B4 pr s1_0 s2_1 t12 t13 w k Q = (
  bif decide (t13 < t12) then (
  pr.idxK 1 s1_0 t13 fun (a2 : Addr) =>
  pr.load1 (.int .i64) a2 w fun (ξ3 : Int) =>
  pr.idxK 1 s2_1 t13 fun (a4 : Addr) =>
  pr.load1 (.int .i64) a4 w fun (ξ5 : Int) =>
  pr.drewAll w fun ω6 =>
  bif ξ3 != ξ5 then (
  Q .ret [(4, .bool false)] ω6)
  else (
  k (emb4 s1_0 s2_1 t12 (w64 (t13 + 1))) ω6))
  else (
  Q (.exit 0) (x0) w)) := by kernel_rfl
theorem B4_s (s1_0 : Sl) (s2_1 : Sl) (t12 : Int) (t13 : Int) (w : World) (k : Env → World → Prop) (Q : Exit → Env → World → Prop) : B4 std s1_0 s2_1 t12 t13 w k Q = (
  bif decide (t13 < t12) then (
  idxK 1 s1_0 t13 fun (a2 : Addr) =>
  load1 (.int .i64) a2 w fun (ξ3 : Int) =>
  idxK 1 s2_1 t13 fun (a4 : Addr) =>
  load1 (.int .i64) a4 w fun (ξ5 : Int) =>
  drewAll w fun ω6 =>
  bif ξ3 != ξ5 then (
  Q .ret [(4, .bool false)] ω6)
  else (
  k (emb4 s1_0 s2_1 t12 (w64 (t13 + 1))) ω6))
  else (
  Q (.exit 0) (x0) w)) := B4_eq std s1_0 s2_1 t12 t13 w k Q
theorem L4_rule (s1_0 : Sl) (s2_1 : Sl) (t12 : Int) (t13 : Int) (w : World) (Q : Exit → Env → World → Prop) (I : Int → World → Prop) (μ : Int → World → Nat) (h0 : I t13 w)
    (h : ∀ (t13 : Int) (w' : World), I t13 w' → B4 std s1_0 s2_1 t12 t13 w' (fun e2 w2 => ∃ t13_n, e2 = emb4 s1_0 s2_1 t12 t13_n ∧ I t13_n w2 ∧ μ t13_n w2 < μ t13 w') Q) :
    L4 std s1_0 s2_1 t12 t13 w Q := by
  unfold L4
  refine LoopE.intro (σ := Int) (step := S4 std Q) (fun s => emb4 s1_0 s2_1 t12 s) (fun s w => I s w) (fun s w => μ s w) t13 rfl h0 ?_
  intro s w' hI
  have h1 := h s w' hI
  unfold B4 at h1
  exact h1
theorem A4_0_eq (pr : Prims) (w : World) (R : Ending → World → Prop) : (q1 pr R) (.exit 0) (x0) w = (
  R (.returned (.bool true)) w) := by kernel_rfl
theorem A4_0_s (w : World) (R : Ending → World → Prop) : (q1 std R) (.exit 0) (x0) w = (
  R (.returned (.bool true)) w) := A4_0_eq std w R
theorem R4_eq (pr : Prims) (v4 : Value) (w : World) (R : Ending → World → Prop) : (q1 pr R) .ret [(4, v4)] w = (
  R (.returned (v4)) w) := by kernel_rfl
theorem R4_s (v4 : Value) (w : World) (R : Ending → World → Prop) : (q1 std R) .ret [(4, v4)] w = (
  R (.returned (v4)) w) := R4_eq std v4 w R
theorem E_eq (pr : Prims) (s1_0 : Sl) (s2_1 : Sl) (w : World) (R : Ending → World → Prop) : E pr s1_0 s2_1 w R = (
  bif (s1_0.n : Int) != (s2_1.n : Int) then (
  R (.returned (.bool false)) w)
  else (
  L4 pr s1_0 s2_1 (s1_0.n : Int) 0 w (q1 pr R))) := by kernel_rfl
theorem E_s (s1_0 : Sl) (s2_1 : Sl) (w : World) (R : Ending → World → Prop) : E std s1_0 s2_1 w R = (
  bif (s1_0.n : Int) != (s2_1.n : Int) then (
  R (.returned (.bool false)) w)
  else (
  L4 std s1_0 s2_1 (s1_0.n : Int) 0 w (q1 std R))) := E_eq std s1_0 s2_1 w R
theorem drawsOk : drawsOk PP cfg okD (codeOf Try.f76) = true := by kernel_rfl
theorem calls (s1_0 : Sl) (s2_1 : Sl) {w : World} {R : Ending → World → Prop} (h : E std s1_0 s2_1 w R) : Calls PP F.slices_Equal___int_int_ #[Sl.v s1_0, Sl.v s2_1] w R :=
  calls_of noCount mixed drawOk Try.func76 rfl (c := cfg) (args := [Sl.v s1_0, Sl.v s2_1]) rfl (Nat.le_of_ble_eq_true (by kernel_rfl)) drawsOk h
end slices_Equal___int_int_

end Go.Proofs.Ytdchjhhpbdekeaa

/- The library's equality of rows. -/
namespace Go.Proofs.Ytdchjhhpbdekeaa
open Go Go.RowKit
set_option maxRecDepth 100000

theorem c_Equal {w : World} {a b : Sl} {L M : List Int} (ha : RowI w a L) (hb : RowI w b M) (hL : L.length < 2^39) : Quiet F.slices_Equal___int_int_ #[a.v, b.v] w (.bool (decide (L = M))) := by
  intro w1 hd
  have han : a.n = L.length := by have := ha.n; simpa using this
  have hbn : b.n = M.length := by have := hb.n; simpa using this
  refine slices_Equal___int_int_.calls a b ?_
  rw [slices_Equal___int_int_.E_s]
  refine bif_intro (fun h => ?_) (fun h => ?_)
  · have : L.length ≠ M.length := by simp at h; omega
    have : L ≠ M := fun e => this (by rw [e])
    exact ⟨by simp [this], Drew.refl _⟩
  have hlen : L.length = M.length := by simp at h; omega
  refine slices_Equal___int_int_.L4_rule _ _ _ _ _ _ (I := fun i w' => 0 ≤ i ∧ i ≤ L.length ∧ (∀ k, k < i.toNat → L[k]? = M[k]?) ∧ Drew w1 w') (μ := fun i _ => (L.length - i).toNat)
    ⟨by omega, by omega, fun k hk => by simp at hk, Drew.refl _⟩ ?_
  rintro i w' ⟨h0, hi, hall, hd2⟩
  have hh : w'.heap = w.heap := (hd.trans hd2).heap'
  rw [slices_Equal___int_int_.B4_s]
  refine bif_dec (fun h3 => ?_) (fun h3 => ?_)
  · have hlt : i.toNat < L.length := by omega
    have hlt2 : i.toNat < M.length := by omega
    refine RowI.get (ha.heap hh) h0 (by omega) ?_
    refine RowI.get (hb.heap hh) h0 (by omega) ?_
    refine drew_intro fun w3 hd3 => ?_
    rw [getD_eq hlt, getD_eq hlt2]
    refine bif_intro (fun h4 => ?_) (fun h4 => ?_)
    · have : L ≠ M := fun e => by subst e; simp at h4
      rw [slices_Equal___int_int_.R4_s]
      exact ⟨by simp [this], hd2.trans hd3⟩
    · have h4 : L[i.toNat] = M[i.toNat] := by simpa using h4
      refine ⟨i + 1, by rw [w64_succ h0 (by omega)], ⟨by omega, by omega, fun k hk => ?_, hd2.trans hd3⟩, by omega⟩
      by_cases hk2 : k < i.toNat
      · exact hall k hk2
      · have : k = i.toNat := by omega
        subst this
        rw [List.getElem?_eq_getElem hlt, List.getElem?_eq_getElem hlt2, h4]
  · rw [slices_Equal___int_int_.A4_0_s]
    have : L = M := by
      apply List.ext_getElem?
      intro k
      by_cases hk : k < L.length
      · exact hall k (by omega)
      · rw [List.getElem?_eq_none (by omega), List.getElem?_eq_none (by omega)]
    exact ⟨by simp [this], hd2⟩
end Go.Proofs.Ytdchjhhpbdekeaa

/- PermOfTableaux: the program's text. -/
namespace Go.Proofs.Ytdchjhhpbdekeaa
open Go Go.RowKit
set_option maxRecDepth 100000

def lastIs (k : Int) (L : List Int) : Bool := decide (0 < L.length) && L.getD (L.length - 1) 0 == k
theorem c_LastFn {w0 : World} {v : Addr} {k : Int} (hv : w0.cell? v = some (vI k)) {r : Sl} {L : List Int} (hr : RowI w0 r L) (hL : L.length < 2^38) : FnB w0 (.func (.func F.impl_PermOfTableauxL1) #[] #[.pointer (some v)]) [r.v] (lastIs k L) := by
  intro w hb
  have hrn : r.n = L.length := by have := hr.n; simpa using this
  refine ⟨F.impl_PermOfTableauxL1, #[], #[.pointer (some v)], rfl, by kernel_rfl, ?_⟩
  refine impl_PermOfTableauxL1.calls r v ?_
  rw [impl_PermOfTableauxL1.E_s, hrn]
  refine bif_dec (fun h => ?_) (fun h => ?_)
  · rw [w64_id (by omega) (by omega)]
    refine RowI.get (hr.grow hb) (by omega) (by omega) ?_
    refine load_int (cell_grow hv hb) ?_
    refine drew_intro fun w1 hd => ?_
    refine ⟨?_, hd.below _⟩
    rw [lastIs, decide_eq_true (by omega), show ((L.length : Int) - 1).toNat = L.length - 1 by omega]; rfl
  · refine drew_intro fun w1 hd => ?_
    refine ⟨?_, hd.below _⟩
    rw [lastIs, decide_eq_false (by omega)]; rfl
theorem PotN.idx {b : List (List Int)} {k : Nat} {T C : List (List Int)} {r : Nat} (h : PotN b k T C r) (hl : C.length = b.length) : idxF (lastIs ((k : Int) + 1)) C = r := by
  have hr : r < C.length := by have := h.lt; omega
  refine idxF_at hr ?_ fun j hj => ?_
  · rw [← getD_SS hr, lastIs, decide_eq_true h.posC, h.last]; simp
  · rw [← getD_SS (show j < C.length by omega), lastIs]
    by_cases h1 : 0 < (C.getD j []).length
    · by_cases h2 : (C.getD j []).getD ((C.getD j []).length - 1) 0 = (k : Int) + 1
      · have := h.only j (by omega) h1 h2; omega
      · rw [decide_eq_true h1, Bool.true_and]; exact beq_false_of_ne h2
    · rw [decide_eq_false h1]; rfl
/-- The number goes up through the rows. -/
theorem impl_bump {w : World} {B : Nat} {a b o : Sl} {i : Addr} {rs : List Sl} {T : List (List Int)} {r : Nat} {n : Int} (h : OwnRows w B a rs T) (hB : B ≤ w.heap.size) (hR : ∀ j, (T.getD j []).length < 2^38) (hrT : r < 2^38) (hq : BQ T n r) {k : Env → World → Prop} {Q : Exit → Env → World → Prop}
    (hfin : ∀ w', OwnRows w' B a rs (bumpUp T n r).1 → Stp w w' (foot a rs) (foot a rs) → (impl_PermOfTableaux.q49 std k Q) (.exit 4) (impl_PermOfTableaux.x4 a b o i (bumpUp T n r).2) w') : impl_PermOfTableaux.J18 std a b o i r n w k Q := by
  rw [impl_PermOfTableaux.J18_s, w64_id (n := (r : Int) - 1) (by omega) (by omega)]
  refine impl_PermOfTableaux.L19_rule _ _ _ _ _ _ _ _ (I := fun q v w' => -1 ≤ q ∧ q < r ∧ B ≤ w'.heap.size ∧ ∃ T1, OwnRows w' B a rs T1 ∧ T1.length = T.length ∧ (∀ j, (T1.getD j []).length < 2^38) ∧ BQ T1 v (q + 1).toNat ∧ bumpUp T1 v (q + 1).toNat = bumpUp T n r ∧ Stp w w' (foot a rs) (foot a rs))
    (μ := fun q _ _ => (q + 1).toNat) ⟨by omega, by omega, hB, T, h, rfl, hR, by rw [show ((r : Int) - 1 + 1).toNat = r by omega]; exact hq, by rw [show ((r : Int) - 1 + 1).toNat = r by omega], Stp.refl _ _⟩ ?_
  rintro q v w2 ⟨hq0, hqr, hB2, T1, ho, hl1, hR1, hbq, heq, st⟩
  rw [impl_PermOfTableaux.B19_s]
  refine bif_dec (fun h3 => ?_) (fun h3 => ?_)
  · have hqs : (q + 1).toNat = q.toNat + 1 := by omega
    rw [hqs] at hbq heq
    obtain ⟨a1, a2, a3, a4⟩ := hbq.at_
    have hRq := hR1 q.toNat
    refine ho.load h3 (by omega) fun ρ2 hρ2 ho2 => ?_
    have hρ2n : ρ2.n = (T1.getD q.toNat []).length := by have := ho2.n; simpa using this
    rw [hρ2n, w64_id (n := ((T1.getD q.toNat []).length : Int) - 1) (by omega) (by omega)]
    refine impl_PermOfTableaux.L22_rule _ _ _ _ _ _ _ _ _ (I := fun c w' => w' = w2 ∧ 0 ≤ c ∧ c < (T1.getD q.toNat []).length ∧ dn (T1.getD q.toNat []) v c.toNat = dn (T1.getD q.toNat []) v ((T1.getD q.toNat []).length - 1)) (μ := fun c _ => c.toNat)
      ⟨rfl, by omega, by omega, by rw [show (((T1.getD q.toNat []).length : Int) - 1).toNat = (T1.getD q.toNat []).length - 1 by omega]⟩ ?_
    rintro c w3 ⟨rfl, hc0, hcl, hcd⟩
    have hdle := dn_le (T1.getD q.toNat []) v c.toNat
    rw [impl_PermOfTableaux.B22_s]
    refine ho.load h3 (by omega) fun ρ3 _ ho3 => ?_
    refine RowI.get ho3.row hc0 (by omega) ?_
    refine bif_dec (fun h4 => ?_) (fun h4 => ?_)
    · have hc1 : c.toNat ≠ 0 := by
        intro e
        rw [e] at hcd h4
        rw [← hcd, dn] at a4
        omega
      refine ⟨c - 1, by rw [w64_id (by omega) (by omega)], ⟨rfl, by omega, by omega, ?_⟩, by omega⟩
      rw [← hcd]
      obtain ⟨d, hd⟩ : ∃ d, c.toNat = d + 1 := ⟨c.toNat - 1, by omega⟩
      rw [hd] at h4 ⊢
      rw [show (c - 1).toNat = d by omega, dn, if_pos h4]
    · have hcd' : c.toNat = dn (T1.getD q.toNat []) v ((T1.getD q.toNat []).length - 1) := by
        rw [← hcd]
        rcases Nat.eq_zero_or_pos c.toNat with e | e
        · rw [e]; rfl
        · obtain ⟨d, hd⟩ : ∃ d, c.toNat = d + 1 := ⟨c.toNat - 1, by omega⟩
          rw [hd] at h4 ⊢
          rw [dn, if_neg h4]
      rw [impl_PermOfTableaux.A22_6_s]
      refine drew_intro fun w4 hd4 => ?_
      have hh := hd4.heap'
      have ho4 := ho.heap hh
      have hot := ho4.at_ q.toNat ρ2 _ hρ2 (by rw [List.getElem?_eq_getElem a1, ← getD_SS a1])
      refine ho4.placeT h3 (by omega) hρ2 fun a5 _ hc5 => ?_
      refine ho4.placeT h3 (by omega) hρ2 fun a6 _ hc6 => ?_
      have hpl : ∀ K : Addr → Prop, (∀ a', w4.cell? a' = some (vI ((T1.getD q.toNat []).getD c.toNat 0)) → K a') → idxK 1 ρ2 c K := fun K hk => RowI.place hot.row hc0 (by omega) hk
      have l5 : ∀ K : Sl → Prop, K ρ2 → load1 .sl a5 w4 K := fun K hk => load_sl hc5 hk
      have l6 : ∀ K : Sl → Prop, K ρ2 → load1 .sl a6 w4 K := fun K hk => load_sl hc6 hk
      have fin : idxK 1 ρ2 c fun a7 => storeC a7 (vI v) w4 fun w5 => ∃ q_n v_n, impl_PermOfTableaux.emb19 a b o i (w64 (q - 1)) ((T1.getD q.toNat []).getD c.toNat 0) = impl_PermOfTableaux.emb19 a b o i q_n v_n ∧ (-1 ≤ q_n ∧ q_n < r ∧ B ≤ w5.heap.size ∧ ∃ T1, OwnRows w5 B a rs T1 ∧ T1.length = T.length ∧ (∀ j, (T1.getD j []).length < 2^38) ∧ BQ T1 v_n (q_n + 1).toNat ∧ bumpUp T1 v_n (q_n + 1).toNat = bumpUp T n r ∧ Stp w w5 (foot a rs) (foot a rs)) ∧ (q_n + 1).toNat < (q + 1).toNat := by
        refine Own.put hot hc0 (by rw [List.length_map]; omega) ?_
        intro w5 h5 hg5 hz5
        have h5' : OwnI w5 B ρ2 ((T1.getD q.toNat []).set c.toNat v) := by simp only [OwnI, List.map_set]; exact h5
        have ho5 := ho4.inside hρ2 h5' hg5
        have st5 : Stp w w5 (foot a rs) (foot a rs) := st.trans ⟨(hd4.keeps _).trans ((keeps_grown hg5).mono fun g e => .inr ⟨ρ2, List.mem_of_getElem? hρ2, e⟩), fun _ e => .inl e⟩
        rw [hcd'] at ho5 ⊢
        refine ⟨q - 1, _, by rw [w64_id (by omega) (by omega)], ⟨by omega, by omega, by rw [hz5, hh]; omega, _, ho5, by rw [List.length_set]; exact hl1, fun j => ?_, by rw [show (q - 1 + 1).toNat = q.toNat by omega]; exact hbq.step, by rw [show (q - 1 + 1).toNat = q.toNat by omega]; rw [← heq, bumpUp], st5⟩, by omega⟩
        rw [getD_setR]
        split
        · rw [List.length_set]; exact hRq
        · exact hR1 j
      repeat' first
        | (with_reducible exact fin)
        | (with_reducible apply And.intro)
        | (with_reducible refine l5 _ ?_)
        | (with_reducible refine l6 _ ?_)
        | (with_reducible refine load_int (by assumption) ?_)
        | (with_reducible refine hpl _ ?_; intro _ _)
  · rw [show (q + 1).toNat = 0 by omega, bumpUp] at heq
    have h5 := hfin w2 (by rw [← heq]; exact ho) st
    rw [← heq] at h5
    exact h5
def cellN (w : World) (i : Addr) : Nat := match w.cell? i with
  | some (.int _ n) => n.toNat
  | _ => 0
theorem cellN_eq {w B i x} (h : OwnI w B (vsl i) [x]) : cellN w i = x.toNat := by rw [cellN, vsl_cell h]
/-- The state between two numbers. -/
structure PoS (w0 : World) (B : Nat) (A C : List (List Int)) (a b o : Sl) (i : Addr) (k : Nat) (w : World) : Prop where
  below : Below B w0 w
  hB : B ≤ w.heap.size
  st : ∃ ra rb T D tl, PotS C k T D ∧ OwnRows w B a ra T ∧ OwnRows w B b rb D ∧ OwnI w B o (List.replicate k 0 ++ tl) ∧ OwnI w B (vsl i) [(k : Int)] ∧
    (∀ g, foot a ra g → ¬ foot b rb g) ∧ (∀ g, foot a ra g → o.blk ≠ some g) ∧ (∀ g, foot b rb g → o.blk ≠ some g) ∧ (∀ g, foot a ra g → i.block ≠ g) ∧ (∀ g, foot b rb g → i.block ≠ g) ∧ o.blk ≠ some i.block ∧ popT C k T ++ tl = popT C (tot C) A
set_option maxHeartbeats 1000000 in
open Classical in
theorem c_implPermOfTableaux {w : World} {a b : Sl} {A C : List (List Int)} (ha : RowSS w a A) (hA : A.length < 2^38) (tA : tot A < 2^38) (hb : RowSS w b C) (hC : C.length < 2^38) (tC : tot C < 2^38) :
    Calls PP F.impl_PermOfTableaux #[a.v, b.v] w fun e w' => ∃ s : Sl, e = .returned (.tuple #[s.v, .bool (PermOfTableauxV1 A C)]) ∧ OwnI w' w.heap.size s (PermOfTableauxV A C) ∧ Below w.heap.size w w' := by
  refine impl_PermOfTableaux.calls a b ?_
  rw [impl_PermOfTableaux.E_s]
  have no : ∀ (w1 : World), Below w.heap.size w w1 → ¬ (IsTab A ∧ IsTab C ∧ lens A = lens C) → ∃ s : Sl, Ending.returned (.tuple #[Sl.nil.v, .bool false]) = .returned (.tuple #[s.v, .bool (PermOfTableauxV1 A C)]) ∧ OwnI w1 w.heap.size s (PermOfTableauxV A C) ∧ Below w.heap.size w w1 := by
    intro w1 hb1 hn
    rw [PermOfTableauxV, PermOfTableauxV1, if_neg hn, decide_eq_false hn]
    exact ⟨Sl.nil, rfl, Own.nil _ _ _, hb1⟩
  refine (c_implIsTableau ha hA tA).mono ?_
  rintro e w1 ⟨rfl, hb1⟩
  refine ⟨_, rfl, ?_⟩
  refine bif_intro (fun h => ?_) (fun h => ?_)
  · exact no w1 hb1 fun hh => by simp [IsTableauV, hh.1] at h
  have hTA : IsTab A := by simpa [IsTableauV] using h
  refine (c_implIsTableau (hb.grow hb1) hC tC).mono ?_
  rintro e w2 ⟨rfl, hb2⟩
  refine ⟨_, rfl, ?_⟩
  have hb02 := hb1.trans (hb2.mono hb1.size)
  refine bif_intro (fun h => ?_) (fun h => ?_)
  · exact no w2 hb02 fun hh => by simp [IsTableauV, hh.2.1] at h
  have hTC : IsTab C := by simpa [IsTableauV] using h
  refine (c_form (ha.grow hb02) hA tA).mono ?_
  rintro e w3 ⟨s3, rfl, hs3, hb3⟩
  refine ⟨s3, rfl, ?_⟩
  have hb03 := hb02.trans (hb3.mono hb02.size)
  refine (c_form (hb.grow hb03) hC tC).mono ?_
  rintro e w4 ⟨s4, rfl, hs4, hb4⟩
  refine ⟨s4, rfl, ?_⟩
  have hb04 := hb03.trans (hb4.mono hb03.size)
  refine Quiet.call1 (s := .bool) (c_Equal (hs3.row.grow hb4) hs4.row (by rw [lens_length]; omega)) ?_
  intro w5 hd5
  have hb05 := hb04.trans (hd5.below _)
  refine bif_intro (fun h => ?_) (fun h => ?_)
  · exact no w5 hb05 fun hh => by simp [hh.2.2] at h
  have hE : lens A = lens C := by simpa using h
  rw [PermOfTableauxV, PermOfTableauxV1, if_pos ⟨hTA, hTC, hE⟩, decide_eq_true (show IsTab A ∧ IsTab C ∧ lens A = lens C from ⟨hTA, hTC, hE⟩)]
  have hn8 := hTC.form.count
  have ht8 := hTC.form.tot
  have hlAC : A.length = C.length := by have := congrArg List.length hE; simpa [lens_length] using this
  have htot : tot A = tot C := by
    have h1 := sm_lens A A.length (Nat.le_refl _)
    have h2 := sm_lens C C.length (Nat.le_refl _)
    rw [List.take_length] at h1 h2
    rw [hE, hlAC] at h1
    omega
  refine (c_copied (ha.grow hb05) hA tA).mono ?_
  rintro e w6 ⟨a', ra, rfl, hoa, hb6⟩
  refine ⟨a', rfl, ?_⟩
  have hb06 := hb05.trans (hb6.mono hb05.size)
  refine (c_copied (hb.grow hb06) hC tC).mono ?_
  rintro e w7 ⟨b', rb, rfl, hob, hb7⟩
  refine ⟨b', rfl, ?_⟩
  have hb07 := hb06.trans (hb7.mono hb06.size)
  have hoa7 := hoa.grow hb7
  have hab : ∀ g, foot a' ra g → ¬ foot b' rb g := fun g h1 h2 => by have := (hoa.footLt h1).2; have := (hob.footLt h2).1; omega
  have han := hoa7.n
  rw [han]
  refine impl_PermOfTableaux.L6_rule _ _ _ _ _ _ _ _ (I := fun z r w' => w' = w7 ∧ 0 ≤ r ∧ r ≤ A.length ∧ z = (tot (A.take r.toNat) : Int)) (μ := fun _ r _ => (A.length - r).toNat) ⟨rfl, by omega, by omega, by simp [tot_nil]⟩ ?_
  rintro z r w8 ⟨rfl, hr0, hr, rfl⟩
  rw [impl_PermOfTableaux.B6_s]
  refine bif_dec (fun h3 => ?_) (fun h3 => ?_)
  · have hlt : r.toNat < A.length := by omega
    refine hoa7.load hr0 (by omega) fun ρ _ hρ => ?_
    have hρn : ρ.n = (A.getD r.toNat []).length := by have := hρ.n; simpa using this
    have h4 := tot_take_succ hlt
    have h5 := tot_take_le A (r.toNat + 1)
    refine ⟨_, r + 1, by rw [w64_succ hr0 (by omega), w64_id (by omega) (by omega)], ⟨rfl, by omega, by omega, ?_⟩, by omega⟩
    rw [show (r + 1).toNat = r.toNat + 1 by omega, h4, hρn]; omega
  rw [impl_PermOfTableaux.A6_0_s]
  rw [show r.toNat = A.length by omega, List.take_length, htot]
  refine make_own oneInt (B := w.heap.size) hb07.size (by omega) (by omega) ?_
  intro o w9 ho hg9 hn9
  rw [Int.toNat_natCast] at ho
  have hb9 := below_of_grow hg9
  have hb09 := hb07.trans (hb9.mono hb07.size)
  have hobl : ∀ g, o.blk = some g → w8.heap.size ≤ g := fun g hg => (hn9 g hg).elim (fun e => by simp [Sl.blk, Sl.nil] at e) id
  refine vsl_new hb09.size fun i w10 hi hib hb10 => ?_
  have hb010 := hb09.trans (hb10.mono hb09.size)
  have hsz9 := hb9.size
  refine impl_PermOfTableaux.L12_rule _ _ _ _ _ _ (I := fun i w' => ∃ k : Nat, k ≤ tot C ∧ PoS w w.heap.size A C a' b' o i k w') (μ := fun i w' => cellN w' i)
    ⟨tot C, Nat.le_refl _, hb010, hb010.size, ra, rb, A, C, [], PotS.start hTA hTC hE, ((hoa7.grow hb9).grow hb10).mono hb05.size, ((hob.grow hb9).grow hb10).mono hb06.size, by simpa [OwnI] using ho.grow hb10, hi, hab, fun g hg e => ?_, fun g hg e => ?_, fun g hg e => ?_, fun g hg e => ?_, fun e => ?_, by simp⟩ ?_
  · have := hobl g e; have := (hoa7.footLt hg).2; omega
  · have := hobl g e; have := (hob.footLt hg).2; omega
  · have := (hoa7.footLt hg).2; omega
  · have := (hob.footLt hg).2; omega
  · have := (ho.lt _ e).2; omega
  rintro i w11 ⟨k, hk, hb11, hB11, ra, rb, T, D, tl, hp, oa, ob, oo, oi, ab, ao, bo, ai, bi, oib, heq⟩
  have hμ : cellN w11 i = k := by rw [cellN_eq oi]; omega
  rw [impl_PermOfTableaux.B12_s]
  refine load_int (vsl_cell oi) ?_
  refine bif_dec (fun h4 => ?_) (fun h4 => ?_)
  · obtain ⟨k', rfl⟩ : ∃ k', k = k' + 1 := ⟨k - 1, by omega⟩
    obtain ⟨r2, hN⟩ := hp.step hTC.perm.nodup
    have hrT : r2 < T.length := by have := hp.lt; have := hN.lt; omega
    have hrD : r2 < D.length := by have := hp.lc; have := hN.lt; omega
    have hDl : ∀ R ∈ D, R.length ≤ 8 := fun R hR => by
      have h6 := flat_tab hR
      have h7 := hp.pc.length_eq
      rw [idn_length] at h7
      omega
    have hDr : ∀ j, (D.getD j []).length ≤ 8 := fun j => by
      rcases Nat.lt_or_ge j D.length with h5 | h5
      · exact hDl _ (by rw [getD_SS h5]; exact List.getElem_mem h5)
      · rw [List.getD_eq_getElem?_getD, List.getElem?_eq_none h5]; simp
    have hTr : ∀ j, (T.getD j []).length ≤ 8 := fun j => by rw [hp.same]; exact hDr j
    have hpos := hN.posC
    have hsame := hp.same r2
    refine (c_IndexFuncS ob.row (by have := hp.lc; omega) (φ := lastIs ((k' : Int) + 1)) fun L hL r hr => c_LastFn (by have := vsl_cell oi; rw [this]; simp) hr (by have := hDl L hL; omega)).mono ?_
    rintro e w12 ⟨rfl, hb12⟩
    refine ⟨_, rfl, ?_⟩
    rw [hN.idx hp.lc]
    replace oa := oa.grow hb12
    replace ob := ob.grow hb12
    replace oo := Own.grow oo hb12
    replace oi := Own.grow oi hb12
    have hb012 := hb11.trans (hb12.mono hB11)
    obtain ⟨ta, hta, hota⟩ := oa.get hrT
    obtain ⟨tb, htb, hotb⟩ := ob.get hrD
    have htan : ta.n = (T.getD r2 []).length := by have := hota.n; simpa using this
    have htbn : tb.n = (D.getD r2 []).length := by have := hotb.n; simpa using this
    have h8 := hTr r2
    have h9 := hDr r2
    have ld : ∀ {K : Sl → Prop}, K ta → idxK 1 a' (r2 : Int) fun a => load1 .sl a w12 K := fun {K} hk => Row.get (sh := .sl) (r := ta) oa.out.row (by omega) (by rw [List.getElem?_map, Int.toNat_natCast, hta]; rfl) hk
    refine ld (ld ?_)
    rw [htan, w64_id (n := ((T.getD r2 []).length : Int) - 1) (by omega) (by omega)]
    refine RowI.get hota.row (by omega) (by omega) ?_
    rw [show (((T.getD r2 []).length : Int) - 1).toNat = (T.getD r2 []).length - 1 by omega]
    refine drew_intro fun w13 hd13 => ?_
    have hh := hd13.heap'
    replace oa := oa.heap hh
    replace ob := ob.heap hh
    replace oo := Own.heap oo hh
    replace oi := Own.heap oi hh
    replace hota := Own.heap hota hh
    replace hotb := Own.heap hotb hh
    have hb013 : Below w.heap.size w w13 := hb012.trans (hd13.below _)
    refine oa.placeT (by omega) (by omega) (by rw [Int.toNat_natCast]; exact hta) fun aa haa hca => ?_
    refine ob.placeT (by omega) (by omega) (by rw [Int.toNat_natCast]; exact htb) fun ad had hcb => ?_
    have la : ∀ K : Sl → Prop, K ta → load1 .sl aa w13 K := fun K hk => load_sl hca hk
    have lb : ∀ K : Sl → Prop, K tb → load1 .sl ad w13 K := fun K hk => load_sl hcb hk
    have ca : ∀ K : Sl → Prop, (OwnI w13 w.heap.size ⟨ta.a, (T.getD r2 []).length - 1, ta.c⟩ ((T.getD r2 []).take ((T.getD r2 []).length - 1)) → K ⟨ta.a, (T.getD r2 []).length - 1, ta.c⟩) → cutK 1 ta none (some (((T.getD r2 []).length : Int) - 1)) K := fun K hk => by
      refine Own.popE hota (by omega) (by rw [List.length_map]; omega) ?_
      rw [show (((T.getD r2 []).length : Int) - 1).toNat = (T.getD r2 []).length - 1 by omega, ← List.map_take]
      exact hk
    have cb : ∀ K : Sl → Prop, (OwnI w13 w.heap.size ⟨tb.a, (D.getD r2 []).length - 1, tb.c⟩ ((D.getD r2 []).take ((D.getD r2 []).length - 1)) → K ⟨tb.a, (D.getD r2 []).length - 1, tb.c⟩) → cutK 1 tb none (some (((T.getD r2 []).length : Int) - 1)) K := fun K hk => by
      refine Own.popE hotb (by omega) (by rw [List.length_map]; omega) ?_
      rw [show (((T.getD r2 []).length : Int) - 1).toNat = (D.getD r2 []).length - 1 by omega, ← List.map_take]
      exact hk
    have fin : OwnI w13 w.heap.size ⟨ta.a, (T.getD r2 []).length - 1, ta.c⟩ ((T.getD r2 []).take ((T.getD r2 []).length - 1)) → OwnI w13 w.heap.size ⟨tb.a, (D.getD r2 []).length - 1, tb.c⟩ ((D.getD r2 []).take ((D.getD r2 []).length - 1)) →
        idxK 1 a' (r2 : Int) fun a17 => storeC a17 (Sl.v ⟨ta.a, (T.getD r2 []).length - 1, ta.c⟩) w13 fun w14 => idxK 1 b' (r2 : Int) fun a18 => storeC a18 (Sl.v ⟨tb.a, (D.getD r2 []).length - 1, tb.c⟩) w14 fun w15 =>
          impl_PermOfTableaux.J18 std a' b' o i (r2 : Int) ((T.getD r2 []).getD ((T.getD r2 []).length - 1) 0) w15 (fun e2 w2 => ∃ i_n, e2 = impl_PermOfTableaux.emb12 a' b' o i_n ∧ (∃ k : Nat, k ≤ tot C ∧ PoS w w.heap.size A C a' b' o i_n k w2) ∧ cellN w2 i_n < cellN w11 i) (impl_PermOfTableaux.q24 std fun e w' => ∃ s : Sl, e = .returned (.tuple #[s.v, .bool true]) ∧ OwnI w' w.heap.size s (popT C (tot C) A) ∧ Below w.heap.size w w') := by
      intro hsa hsb
      have hma := List.mem_of_getElem? hta
      have hmb := List.mem_of_getElem? htb
      refine oa.storeK (S := fun _ => False) (by omega) (by omega) (t := ta) (by rw [Int.toNat_natCast]; exact hta) (Keeps.refl _ _) (fun _ _ hf => hf.elim) hsa (fun g hg => .inl hg) fun w14 oa14 hg14 st14 => ?_
      rw [Int.toNat_natCast] at oa14 st14
      have st14' : Stp w13 w14 (foot a' ra) (foot a' (ra.set r2 ⟨ta.a, (T.getD r2 []).length - 1, ta.c⟩)) := ⟨st14.keeps.mono fun k e => e.elim False.elim id, fun g hg => (st14.next g hg).imp (fun e => e.elim False.elim id) id⟩
      have ob14 := ob.keepsF st14'.keeps fun g h1 h2 => ab g h2 h1
      have oo14 := Own.keeps oo st14'.keeps fun g h1 h2 => ao g h2 h1
      have oi14 := Own.keeps oi st14'.keeps fun g h1 h2 => by rw [vsl_blk] at h1; simp at h1; exact ai g h2 h1
      have hsb14 : OwnI w14 w.heap.size ⟨tb.a, (D.getD r2 []).length - 1, tb.c⟩ ((D.getD r2 []).take ((D.getD r2 []).length - 1)) := Own.keeps hsb st14'.keeps fun g h1 h2 => ab g h2 (.inr ⟨tb, hmb, h1⟩)
      have ab14 := st14'.apart (fun g hg => (ob.footLt hg).2) ab
      have ao14 : ∀ g, foot a' (ra.set r2 ⟨ta.a, (T.getD r2 []).length - 1, ta.c⟩) g → ¬ o.blk = some g := st14'.apart (F := fun g => o.blk = some g) (fun g hg => (oo.lt g hg).2) ao
      have ai14 : ∀ g, foot a' (ra.set r2 ⟨ta.a, (T.getD r2 []).length - 1, ta.c⟩) g → ¬ i.block = g := st14'.apart (F := fun g => i.block = g) (fun g hg => by subst hg; exact (oi.lt _ (vsl_blk i)).2) ai
      have hb014 := hb013.trans (st14'.below (fun g hg => (oa.footLt hg).1) hb013.size)
      refine ob14.storeK (S := fun _ => False) (by omega) (by omega) (t := tb) (by rw [Int.toNat_natCast]; exact htb) (Keeps.refl _ _) (fun _ _ hf => hf.elim) hsb14 (fun g hg => .inl hg) fun w15 ob15 hg15 st15 => ?_
      rw [Int.toNat_natCast] at ob15 st15
      have st15' : Stp w14 w15 (foot b' rb) (foot b' (rb.set r2 ⟨tb.a, (D.getD r2 []).length - 1, tb.c⟩)) := ⟨st15.keeps.mono fun k e => e.elim False.elim id, fun g hg => (st15.next g hg).imp (fun e => e.elim False.elim id) id⟩
      have oa15 := oa14.keepsF st15'.keeps fun g h1 h2 => ab14 g h1 h2
      have oo15 := Own.keeps oo14 st15'.keeps fun g h1 h2 => bo g h2 h1
      have oi15 := Own.keeps oi14 st15'.keeps fun g h1 h2 => by rw [vsl_blk] at h1; simp at h1; exact bi g h2 h1
      have ab15 : ∀ g, foot b' (rb.set r2 ⟨tb.a, (D.getD r2 []).length - 1, tb.c⟩) g → ¬ foot a' (ra.set r2 ⟨ta.a, (T.getD r2 []).length - 1, ta.c⟩) g := st15'.apart (fun g hg => (oa14.footLt hg).2) fun g h1 h2 => ab14 g h2 h1
      have bo15 : ∀ g, foot b' (rb.set r2 ⟨tb.a, (D.getD r2 []).length - 1, tb.c⟩) g → ¬ o.blk = some g := st15'.apart (F := fun g => o.blk = some g) (fun g hg => (oo14.lt g hg).2) bo
      have bi15 : ∀ g, foot b' (rb.set r2 ⟨tb.a, (D.getD r2 []).length - 1, tb.c⟩) g → ¬ i.block = g := st15'.apart (F := fun g => i.block = g) (fun g hg => by subst hg; exact (oi14.lt _ (vsl_blk i)).2) bi
      have hb015 := hb014.trans (st15'.below (fun g hg => (ob14.footLt hg).1) hb014.size)
      refine impl_bump oa15 hb015.size (fun j => ?_) (by have := hp.lt; omega) hN.bq fun w16 oa16 st16 => ?_
      · rw [getD_setR]
        split
        · rw [List.length_take]; omega
        · have := hTr j; omega
      have ob16 := ob15.keepsF st16.keeps fun g h1 h2 => ab15 g h1 h2
      have oo16 := Own.keeps oo15 st16.keeps fun g h1 h2 => ao14 g h2 h1
      have oi16 := Own.keeps oi15 st16.keeps fun g h1 h2 => by rw [vsl_blk] at h1; simp at h1; exact ai14 g h2 h1
      have hb016 := hb015.trans (st16.below (fun g hg => (oa15.footLt hg).1) hb015.size)
      rw [impl_PermOfTableaux.A19_4_s]
      refine load_int (vsl_cell oi16) ?_
      rw [w64_id (n := ((k' + 1 : Nat) : Int) - 1) (by omega) (by omega), show ((k' + 1 : Nat) : Int) - 1 = (k' : Int) by omega]
      refine Own.put oo16 (by omega) (by simp; omega) ?_
      intro w17 oo17 hg17 _
      have k17 := keeps_grown hg17
      have oa17 := oa16.keepsF k17 fun g h1 h2 => ao14 g h1 h2
      have ob17 := ob16.keepsF k17 fun g h1 h2 => bo15 g h1 h2
      have oi17 := Own.keeps oi16 k17 fun g h1 h2 => by rw [vsl_blk] at h1; simp at h1; subst h1; exact oib h2
      have hb017 := hb016.grown hg17 hb016.size (fun g hg => (oo16.lt g hg).1)
      refine load_int (vsl_cell oi17) ?_
      refine vsl_new hb017.size fun i2 w18 oi18 hi18 hb18 => ?_
      have hb018 := hb017.trans (hb18.mono hb017.size)
      refine load_int (vsl_cell oi18) ?_
      rw [w64_id (n := ((k' + 1 : Nat) : Int) - 1) (by omega) (by omega), show ((k' + 1 : Nat) : Int) - 1 = (k' : Int) by omega]
      refine vsl_store oi18 fun w19 oi19 hg19 => ?_
      have k19 := keeps_grown hg19
      have oa18 := oa17.grow hb18
      have ob18 := ob17.grow hb18
      have oo18 := Own.grow oo17 hb18
      have hia : ∀ g, foot a' (ra.set r2 ⟨ta.a, (T.getD r2 []).length - 1, ta.c⟩) g → i2.block ≠ g := fun g hg e => by have := (oa17.footLt hg).2; omega
      have hib' : ∀ g, foot b' (rb.set r2 ⟨tb.a, (D.getD r2 []).length - 1, tb.c⟩) g → i2.block ≠ g := fun g hg e => by have := (ob17.footLt hg).2; omega
      have hio : o.blk ≠ some i2.block := fun e => by have := (oo17.lt _ e).2; omega
      have hb019 := hb018.trans (k19.below (B := w.heap.size) (fun g e => by simp at e; subst e; exact (oi18.lt _ (vsl_blk i2)).1) hb018.size)
      refine ⟨i2, rfl, ⟨k', by omega, hb019, hb019.size, _, _, _, _, (takeAt T r2).2 :: tl, hN.next, oa18.keepsF k19 fun g h1 h2 => by simp at h2; exact hia g h1 h2, ob18.keepsF k19 fun g h1 h2 => by simp at h2; exact hib' g h1 h2, ?_, oi19, fun g h1 h2 => ab15 g h2 h1, ao14, bo15, hia, hib', hio, ?_⟩, ?_⟩
      · have h20 := Own.keeps oo18 k19 fun g h1 h2 => by simp at h2; subst h2; exact hio h1
        rw [Int.toNat_natCast] at h20
        have e1 : (List.replicate (k' + 1) (0 : Int) ++ tl).set k' (takeAt T r2).2 = List.replicate k' 0 ++ (takeAt T r2).2 :: tl := by
          rw [List.replicate_succ', List.append_assoc, List.set_append_right _ _ (by simp)]
          simp
        rw [← e1]
        simp only [OwnI, List.map_set]
        exact h20
      · rw [← heq, popT, hN.row]; simp
      · rw [hμ, cellN_eq oi19]; omega
    apply And.intro
    · refine la _ (ca _ fun h1 => lb _ (cb _ fun h2 => fin h1 h2))
    · refine lb _ (cb _ fun h2 => la _ (ca _ fun h1 => fin h1 h2))
  · rw [impl_PermOfTableaux.A12_2_s]
    have hk0 : k = 0 := by omega
    subst hk0
    rw [← heq]
    exact ⟨o, rfl, by simpa [popT] using oo, hb11⟩
theorem PermOfTableauxV_len (A C : List (List Int)) : (PermOfTableauxV A C).length < 2^38 := by
  by_cases h : IsTab A ∧ IsTab C ∧ lens A = lens C
  · rw [PermOfTableauxV, if_pos h, popT_length]
    have := h.2.1.form.tot
    omega
  · rw [PermOfTableauxV, if_neg h]; simp
end Go.Proofs.Ytdchjhhpbdekeaa

/- TurnTableau: both texts, and the law. -/
namespace Go.Proofs.Ytdchjhhpbdekeaa
open Go Go.RowKit
set_option maxRecDepth 100000

/-- The numbers of a column. -/
def col (LL : List (List Int)) (c : Nat) : List Int := LL.filterMap fun r => r[c]?
def turnW (LL : List (List Int)) : List (List Int) := (List.range (LL.getD 0 []).length).map (col LL)
theorem col_length (LL : List (List Int)) (c : Nat) : (col LL c).length ≤ LL.length := List.length_filterMap_le _ _
theorem col_succ {LL : List (List Int)} {i : Nat} (h : i < LL.length) {c : Nat} (hc : c < (LL.getD i []).length) : col (LL.take (i + 1)) c = col (LL.take i) c ++ [at2 LL i c] := by
  have e : at2 LL i c = LL[i][c]'(by rw [← getD_SS h]; exact hc) := by rw [at2, getD_lt hc]; simp only [getD_SS h]
  rw [List.take_succ_eq_append_getElem h, col, List.filterMap_append, e]
  congr 1
  rw [getD_SS h] at hc
  simp [List.getElem?_eq_getElem hc]
theorem col_short {LL : List (List Int)} {i : Nat} (h : i < LL.length) {c : Nat} (hc : (LL.getD i []).length ≤ c) : col (LL.take (i + 1)) c = col (LL.take i) c := by
  rw [List.take_succ_eq_append_getElem h, col, List.filterMap_append]
  rw [getD_SS h] at hc
  simp [List.getElem?_eq_none hc, col]
theorem FormOk.anti {LL : List (List Int)} (h : FormOk (lens LL) 8) : ∀ j i, i ≤ j → j < LL.length → (LL.getD j []).length ≤ (LL.getD i []).length := by
  intro j
  induction j with
  | zero => intro i hi hj; have : i = 0 := by omega
            subst this; exact Nat.le_refl _
  | succ j ih =>
    intro i hi hj
    by_cases e : i = j + 1
    · subst e; exact Nat.le_refl _
    · have h1 := h.step hj (by omega)
      rw [Nat.add_sub_cancel] at h1
      exact Nat.le_trans h1 (ih i (by omega) (by omega))
/-- How many columns there are after i rows and j numbers of the next one. -/
def nc (LL : List (List Int)) (i j : Nat) : Nat := if i = 0 then j else (LL.getD 0 []).length
def part (LL : List (List Int)) (i j : Nat) : List (List Int) := (List.range (nc LL i j)).map fun c => if c < j then col (LL.take (i + 1)) c else col (LL.take i) c
theorem part_length (LL : List (List Int)) (i j : Nat) : (part LL i j).length = nc LL i j := by simp [part]
theorem part_next {LL : List (List Int)} (hf : FormOk (lens LL) 8) {i : Nat} (hi : i < LL.length) : part LL i (LL.getD i []).length = part LL (i + 1) 0 := by
  have h1 : nc LL i (LL.getD i []).length = nc LL (i + 1) 0 := by
    unfold nc
    rw [if_neg (Nat.succ_ne_zero i)]
    split
    · rename_i h; rw [h]
    · rfl
  unfold part
  rw [h1]
  apply List.map_congr_left
  intro c hc
  rw [if_neg (Nat.not_lt_zero c)]
  split
  · rfl
  · rename_i h2; rw [col_short hi (by omega)]
theorem part_last {LL : List (List Int)} : part LL LL.length 0 = turnW LL := by
  unfold part turnW nc
  by_cases h : LL.length = 0
  · have : LL = [] := List.eq_nil_of_length_eq_zero h
    subst this; rfl
  · rw [if_neg h]
    apply List.map_congr_left
    intro c hc
    rw [if_neg (Nat.not_lt_zero c), List.take_length]
theorem part_getD {LL : List (List Int)} {i j c : Nat} (hc : c < nc LL i j) : (part LL i j).getD c [] = if c < j then col (LL.take (i + 1)) c else col (LL.take i) c := by
  simp [part, List.getD_eq_getElem?_getD, hc]
/-- One number more. -/
theorem part_set {LL : List (List Int)} {i j : Nat} (hi : i < LL.length) (hj : j < (LL.getD i []).length) (hjn : j < nc LL i j) : (part LL i j).set j (col (LL.take i) j ++ [at2 LL i j]) = part LL i (j + 1) := by
  have h0 : i ≠ 0 := fun e => by subst e; simp [nc] at hjn
  have h1 : nc LL i (j + 1) = nc LL i j := by simp [nc, h0]
  apply List.ext_getElem?
  intro c
  rw [List.getElem?_set, part_length]
  by_cases e : j = c
  · subst e
    rw [if_pos rfl, if_pos hjn]
    rw [part, List.getElem?_map, h1, List.getElem?_range hjn]
    simp [col_succ hi hj]
  · rw [if_neg e, part, part, List.getElem?_map, List.getElem?_map, h1]
    by_cases hc : c < nc LL i j
    · rw [List.getElem?_range hc]
      simp only [Option.map_some, Option.some.injEq]
      by_cases h2 : c < j
      · rw [if_pos h2, if_pos (by omega)]
      · rw [if_neg h2, if_neg (by omega)]
    · rw [List.getElem?_eq_none (by simpa using hc)]; rfl
theorem part_push {LL : List (List Int)} {j : Nat} (hj : j < (LL.getD 0 []).length) (hi : 0 < LL.length) : part LL 0 j ++ [col (LL.take 0) j ++ [at2 LL 0 j]] = part LL 0 (j + 1) := by
  unfold part nc
  rw [if_pos rfl, if_pos rfl, List.range_succ, List.map_append, List.map_cons, List.map_nil, if_pos (by omega), col_succ hi hj]
  congr 1
  apply List.map_congr_left
  intro c hc
  rw [List.mem_range] at hc
  rw [if_pos hc, if_pos (by omega)]
theorem turn_room {LL : List (List Int)} (hf : FormOk (lens LL) 8) (h0 : 0 < LL.length) : (LL.getD 0 []).length ≤ 8 := by
  rw [getD_SS h0]; exact Nat.le_trans (len_le_tot (List.getElem_mem h0)) hf.tot
theorem row_le {LL : List (List Int)} (hf : FormOk (lens LL) 8) {i : Nat} (hi : i < LL.length) : (LL.getD i []).length ≤ 8 := by
  rw [getD_SS hi]; exact Nat.le_trans (len_le_tot (List.getElem_mem hi)) hf.tot

open Classical in
noncomputable def TurnTableauV (LL : List (List Int)) : List (List Int) := if IsTab LL then turnW LL else []
open Classical in
noncomputable def TurnTableauV1 (LL : List (List Int)) : Bool := decide (IsTab LL)
theorem turnW_len {LL : List (List Int)} (hf : FormOk (lens LL) 8) : (turnW LL).length ≤ 8 ∧ tot (turnW LL) ≤ 64 := by
  have h1 : (turnW LL).length ≤ 8 := by
    rw [turnW, List.length_map, List.length_range]
    rcases Nat.eq_zero_or_pos LL.length with h | h
    · have : LL = [] := List.eq_nil_of_length_eq_zero h
      subst this; simp
    · exact turn_room hf h
  refine ⟨h1, ?_⟩
  have : tot (turnW LL) ≤ (turnW LL).length * 8 := by
    have hcount := hf.count
    have : ∀ l : List Nat, tot (l.map (col LL)) ≤ l.length * 8 := fun l => by
      induction l with
      | nil => simp [tot]
      | cons x r ih =>
        rw [List.map_cons, tot_cons, List.length_cons, Nat.succ_mul]
        have := col_length LL x
        omega
    have h2 := this (List.range (LL.getD 0 []).length)
    rw [List.length_range] at h2
    rw [turnW, List.length_map, List.length_range]
    exact h2
  omega
theorem TurnTableauV_len (LL : List (List Int)) : (TurnTableauV LL).length < 2^38 ∧ tot (TurnTableauV LL) < 2^38 := by
  unfold TurnTableauV
  split
  · rename_i h; have := turnW_len h.form; omega
  · simp [tot]

theorem c_implTurnTableau {w : World} {a : Sl} {LL : List (List Int)} (ha : RowSS w a LL) (hL : LL.length < 2^38) (ht : tot LL < 2^38) :
    Calls PP F.impl_TurnTableau #[a.v] w fun e w' => ∃ s : Sl, e = .returned (.tuple #[s.v, .bool (TurnTableauV1 LL)]) ∧ OwnSS w' w.heap.size s (TurnTableauV LL) ∧ Below w.heap.size w w' := by
  have han := ha.n
  refine impl_TurnTableau.calls a ?_
  rw [impl_TurnTableau.E_s]
  refine (c_implIsTableau0 ha hL ht).mono ?_
  rintro e w1 ⟨rfl, hb1⟩
  refine ⟨_, rfl, ?_⟩
  refine bif_intro (fun h => ?_) (fun h => ?_)
  · have h : ¬ IsTab LL := by simpa using h
    exact ⟨Sl.nil, by simp [TurnTableauV1, h], by rw [TurnTableauV, if_neg h]; exact OwnSS.none _ _, hb1⟩
  have h : IsTab LL := by simpa using h
  have hf := h.form
  have hV : TurnTableauV LL = turnW LL := by rw [TurnTableauV, if_pos h]
  have hV1 : TurnTableauV1 LL = true := by simp [TurnTableauV1, h]
  refine lit0 oneSint (B := w.heap.size) hb1.size ?_
  intro o0 w2 ho0 hg2 _
  have hb2 := hb1.grown hg2 hb1.size (by simp)
  have hpart0 : part LL 0 0 = [] := by simp [part, nc]
  refine impl_TurnTableau.L5_rule _ _ _ _ _ _ (I := fun o i w' => 0 ≤ i ∧ i ≤ LL.length ∧ OwnSS w' w.heap.size o (part LL i.toNat 0) ∧ Below w.heap.size w w') (μ := fun _ i _ => (LL.length - i).toNat)
    ⟨by omega, by omega, by rw [show (0 : Int).toNat = 0 from rfl, hpart0]; exact OwnSS.nil ho0, hb2⟩ ?_
  rintro o i w' ⟨hi0, hi, ho, hb⟩
  rw [impl_TurnTableau.B5_s]
  refine bif_dec (fun h3 => ?_) (fun h3 => ?_)
  · have hlt : i.toNat < LL.length := by omega
    refine RowSS.getB ha hb hi0 (by omega) fun r hr => ?_
    have hrn : r.n = (LL.getD i.toNat []).length := by have := hr.n; simpa using this
    have hr8 := row_le hf hlt
    rw [hrn]
    refine impl_TurnTableau.L8_rule _ _ _ _ _ _ _ _ _ (I := fun o2 j w3 => 0 ≤ j ∧ j ≤ (LL.getD i.toNat []).length ∧ OwnSS w3 w.heap.size o2 (part LL i.toNat j.toNat) ∧ Below w.heap.size w w3) (μ := fun _ j _ => ((LL.getD i.toNat []).length - j).toNat)
      ⟨by omega, by omega, ho, hb⟩ ?_
    rintro o2 j w3 ⟨hj0, hj, ho2, hb3⟩
    rw [impl_TurnTableau.B8_s]
    have hon := ho2.row.n
    rw [part_length] at hon
    refine bif_dec (fun h4 => ?_) (fun h4 => ?_)
    · have hjlt : j.toNat < (LL.getD i.toNat []).length := by omega
      have hesc : (j + 1).toNat = j.toNat + 1 := by omega
      refine RowI.get (hr.grow hb3) hj0 (by omega) ?_
      have join : ∀ (o3 : Sl) (w4 : World) (X : List (List Int)), OwnSS w4 w.heap.size o3 X → j.toNat < X.length → X.getD j.toNat [] = col (LL.take i.toNat) j.toNat → X.set j.toNat (col (LL.take i.toNat) j.toNat ++ [at2 LL i.toNat j.toNat]) = part LL i.toNat (j.toNat + 1) → Below w.heap.size w w4 →
          impl_TurnTableau.J12 std o3 j ((LL.getD i.toNat []).getD j.toNat 0) a (a.n : Int) i r ((LL.getD i.toNat []).length : Int) j w4 (fun e2 w2 => ∃ out_4_n t21_n, e2 = impl_TurnTableau.emb8 out_4_n a (a.n : Int) i r ((LL.getD i.toNat []).length : Int) t21_n ∧
            (0 ≤ t21_n ∧ t21_n ≤ (LL.getD i.toNat []).length ∧ OwnSS w2 w.heap.size out_4_n (part LL i.toNat t21_n.toNat) ∧ Below w.heap.size w w2) ∧ ((LL.getD i.toNat []).length - t21_n).toNat < ((LL.getD i.toNat []).length - j).toNat)
            (impl_TurnTableau.q10 std (fun e2 w2 => ∃ out_4_n t15_n, e2 = impl_TurnTableau.emb5 out_4_n a (a.n : Int) t15_n ∧ (0 ≤ t15_n ∧ t15_n ≤ LL.length ∧ OwnSS w2 w.heap.size out_4_n (part LL t15_n.toNat 0) ∧ Below w.heap.size w w2) ∧ (LL.length - t15_n).toNat < (LL.length - i).toNat)
            (impl_TurnTableau.q5 std fun e w' => ∃ s : Sl, e = .returned (.tuple #[s.v, .bool (TurnTableauV1 LL)]) ∧ OwnSS w' w.heap.size s (TurnTableauV LL) ∧ Below w.heap.size w w')) := by
        rintro o3 w4 X ⟨rs, hX⟩ hjX hXj hset hb4
        rw [impl_TurnTableau.J12_s]
        have hcl := col_length (LL.take i.toNat) j.toNat
        have hcount := hf.count
        refine hX.appendAt hj0 (by omega) hb4.size (by rw [hXj]; rw [List.length_take] at hcl; omega) ?_
        intro w5 rs5 hX5 hb5
        rw [hXj] at hX5
        refine ⟨o3, j + 1, by rw [w64_succ hj0 (by omega)], ⟨by omega, by omega, ⟨rs5, ?_⟩, hb4.trans hb5⟩, by omega⟩
        rw [hesc, ← hset]
        exact hX5
      rw [hon]
      refine bif_intro (fun h5 => ?_) (fun h5 => ?_)
      · have h5 : j = nc LL i.toNat j.toNat := by simpa using h5
        have hi00 : i.toNat = 0 := by
          apply Classical.byContradiction
          intro hne
          have := hf.anti i.toNat 0 (by omega) hlt
          rw [nc, if_neg hne] at h5; omega
        obtain ⟨rs, ho2⟩ := ho2
        have hpl : (part LL i.toNat j.toNat).length = j.toNat := by rw [part_length]; omega
        refine append_sl (L := []) ho2 hb3.size (Own.nil _ _ _) (fun t _ g e1 e2 => by simp [Sl.blk, Sl.nil] at e2) (by omega) ?_
        intro o3 w4 ho3 hg4 _
        have h0l : 0 < LL.length := by omega
        refine join o3 w4 _ ⟨_, ho3⟩ (by simp; omega) ?_ ?_ (hb3.grown hg4 hb3.size (fun g hg => (ho2.out.lt g hg).1))
        · rw [List.getD_eq_getElem?_getD, List.getElem?_append_right (by omega), hpl, hi00]; simp [col]
        · rw [List.set_append_right _ _ (by omega), hpl, Nat.sub_self, List.set_cons_zero, hi00]
          rw [hi00] at hjlt
          exact part_push hjlt h0l
      · have h5 : j ≠ nc LL i.toNat j.toNat := by simpa using h5
        have hjn : j.toNat < nc LL i.toNat j.toNat := by
          by_cases e : i.toNat = 0
          · rw [nc, if_pos e] at h5; omega
          · rw [nc, if_neg e]; have := hf.anti i.toNat 0 (by omega) hlt; omega
        refine join o2 w3 _ ho2 (by rw [part_length]; exact hjn) (by rw [part_getD hjn, if_neg (Nat.lt_irrefl _)]) (part_set hlt hjlt hjn) hb3
    · rw [impl_TurnTableau.A8_2_s]
      refine ⟨o2, i + 1, by rw [w64_succ hi0 (by omega)], ⟨by omega, by omega, ?_, hb3⟩, by omega⟩
      rw [show j.toNat = (LL.getD i.toNat []).length by omega, part_next hf hlt] at ho2
      rw [show (i + 1).toNat = i.toNat + 1 by omega]
      exact ho2
  · rw [impl_TurnTableau.A5_0_s]
    rw [show i.toNat = LL.length by omega, part_last] at ho
    exact ⟨o, by rw [hV1], by rw [hV]; exact ho, hb⟩

theorem spec_stop {LL : List (List Int)} (hf : FormOk (lens LL) 8) {r c : Nat} (hr : r < LL.length) (hc : (LL.getD r []).length ≤ c) : col (LL.take r) c = col LL c := by
  have : ∀ n, r + n ≤ LL.length → col (LL.take (r + n)) c = col (LL.take r) c := fun n => by
    induction n with
    | zero => intro _; rfl
    | succ n ih =>
      intro hn
      rw [← Nat.add_assoc, col_short (by omega) (Nat.le_trans (hf.anti (r + n) r (by omega) (by omega)) hc)]
      exact ih (by omega)
  have h := this (LL.length - r) (by omega)
  rw [show r + (LL.length - r) = LL.length by omega, List.take_length] at h
  exact h.symm
theorem c_specTurnTableau {w : World} {a : Sl} {LL : List (List Int)} (ha : RowSS w a LL) (hL : LL.length < 2^38) (ht : tot LL < 2^38) :
    Calls PP F.spec_TurnTableau #[a.v] w fun e w' => ∃ s : Sl, e = .returned (.tuple #[s.v, .bool (TurnTableauV1 LL)]) ∧ RowSS w' s (TurnTableauV LL) ∧ Below w.heap.size w w' := by
  have han := ha.n
  refine spec_TurnTableau.calls a ?_
  rw [spec_TurnTableau.E_s]
  refine (c_specIsTableau0 ha hL ht).mono ?_
  rintro e w1 ⟨rfl, hb1⟩
  refine ⟨_, rfl, ?_⟩
  refine bif_intro (fun h => ?_) (fun h => ?_)
  · have h : ¬ IsTab LL := by simpa using h
    refine lit0 oneSint (B := w.heap.size) hb1.size ?_
    intro s w2 hs hg _
    exact ⟨s, by simp [TurnTableauV1, h], by rw [TurnTableauV, if_neg h]; exact (OwnSS.nil hs).row, hb1.grown hg hb1.size (by simp)⟩
  have h : IsTab LL := by simpa using h
  have hf := h.form
  have hV : TurnTableauV LL = turnW LL := by rw [TurnTableauV, if_pos h]
  have hV1 : TurnTableauV1 LL = true := by simp [TurnTableauV1, h]
  refine lit0 oneSint (B := w.heap.size) hb1.size ?_
  intro o0 w2 ho0 hg2 _
  have hb2 := hb1.grown hg2 hb1.size (by simp)
  have htl := (turnW_len hf).1
  have hcount := hf.count
  have h0len : (turnW LL).length = (LL.getD 0 []).length := by simp [turnW]
  refine spec_TurnTableau.L5_rule _ _ _ _ _ (I := fun o c w' => 0 ≤ c ∧ c ≤ (LL.getD 0 []).length ∧ OwnSS w' w.heap.size o ((List.range c.toNat).map (col LL)) ∧ Below w.heap.size w w') (μ := fun _ c _ => ((LL.getD 0 []).length - c).toNat)
    ⟨by omega, by omega, OwnSS.nil ho0, hb2⟩ ?_
  rintro o c w' ⟨hc0, hc, ho, hb⟩
  have fin : ¬ c < (LL.getD 0 []).length → spec_TurnTableau.q7 std (fun e w' => ∃ s : Sl, e = .returned (.tuple #[s.v, .bool (TurnTableauV1 LL)]) ∧ RowSS w' s (TurnTableauV LL) ∧ Below w.heap.size w w') (.exit 0) (spec_TurnTableau.x0 o) w' := by
    intro h9
    rw [spec_TurnTableau.A5_0_s]
    rw [show c.toNat = (LL.getD 0 []).length by omega] at ho
    exact ⟨o, by rw [hV1], by rw [hV]; exact ho.row, hb⟩
  rw [spec_TurnTableau.B5_s]
  refine bif_dec (fun h3 => ?_) (fun h3 => ?_)
  · refine RowSS.getB ha hb (by omega) (by omega) fun r hr => ?_
    have hrn : r.n = (LL.getD 0 []).length := by have := hr.n; simpa using this
    rw [hrn]
    refine bif_dec (fun h4 => ?_) (fun h4 => fin h4)
    refine lit0 oneInt (B := w'.heap.size) (Nat.le_refl _) ?_
    intro t0 w3 ht0 hg3 _
    have hb3 := below_of_grow hg3
    refine spec_TurnTableau.L9_rule _ _ _ _ _ _ _ (I := fun t r w4 => 0 ≤ r ∧ r ≤ LL.length ∧ OwnI w4 w'.heap.size t (col (LL.take r.toNat) c.toNat) ∧ Below w'.heap.size w' w4) (μ := fun _ r _ => (LL.length - r).toNat)
      ⟨by omega, by omega, ht0, hb3⟩ ?_
    rintro t r w4 ⟨hr0, hr1, ht4, hb4⟩
    have out : col (LL.take r.toNat) c.toNat = col LL c.toNat → spec_TurnTableau.q15 std (fun e2 w2 => ∃ out_4_n c_5_n, e2 = spec_TurnTableau.emb5 a out_4_n c_5_n ∧ (0 ≤ c_5_n ∧ c_5_n ≤ (LL.getD 0 []).length ∧ OwnSS w2 w.heap.size out_4_n ((List.range c_5_n.toNat).map (col LL)) ∧ Below w.heap.size w w2) ∧ ((LL.getD 0 []).length - c_5_n).toNat < ((LL.getD 0 []).length - c).toNat)
        (spec_TurnTableau.q7 std fun e w' => ∃ s : Sl, e = .returned (.tuple #[s.v, .bool (TurnTableauV1 LL)]) ∧ RowSS w' s (TurnTableauV LL) ∧ Below w.heap.size w w') (.exit 2) (spec_TurnTableau.x2 a o c t) w4 := by
      intro hcol
      rw [spec_TurnTableau.A9_2_s]
      rw [hcol] at ht4
      refine append_new ho hb4 hb.size ht4 (by simp; omega) ?_
      intro o' w5 ho5 hg5 _
      refine ⟨o', c + 1, by rw [w64_succ hc0 (by omega)], ⟨by omega, by omega, ?_, (hb.trans (hb4.mono hb.size)).grown hg5 (Nat.le_trans hb.size hb4.size) (fun g hg => (ho.lt g hg).1)⟩, by omega⟩
      rw [show (c + 1).toNat = c.toNat + 1 by omega, List.range_succ, List.map_append]
      exact ho5
    rw [spec_TurnTableau.B9_s]
    refine bif_dec (fun h5 => ?_) (fun h5 => ?_)
    · have hlt : r.toNat < LL.length := by omega
      have hall := ha.grow (hb.trans (hb4.mono hb.size))
      refine RowSS.get hall hr0 (by omega) fun u hu => ?_
      have hun : u.n = (LL.getD r.toNat []).length := by have := hu.n; simpa using this
      rw [hun]
      refine bif_dec (fun h6 => ?_) (fun h6 => ?_)
      · refine RowSS.get hall hr0 (by omega) fun u2 hu2 => ?_
        refine RowI.get hu2 hc0 (by omega) ?_
        have hcl := col_length (LL.take r.toNat) c.toNat
        rw [List.length_take] at hcl
        refine append_int ht4 hb4.size (by omega) ?_
        intro t' w5 ht5 hg5 _
        refine ⟨t', r + 1, by rw [w64_succ hr0 (by omega)], ⟨by omega, by omega, ?_, hb4.grown hg5 hb4.size (fun g hg => (ht4.lt g hg).1)⟩, by omega⟩
        rw [show (r + 1).toNat = r.toNat + 1 by omega, col_succ hlt (by omega)]
        exact ht5
      · exact out (spec_stop hf hlt (by omega))
    · exact out (by rw [show r.toNat = LL.length by omega, List.take_length])
  · refine fin ?_
    have : LL = [] := List.eq_nil_of_length_eq_zero (by omega)
    subst this
    simp; omega

end Go.Proofs.Ytdchjhhpbdekeaa

/- TableauxOf: the program's text, and the law. -/
namespace Go.Proofs.Ytdchjhhpbdekeaa
open Go Go.RowKit
set_option maxRecDepth 100000

theorem c_total {w : World} {a : Sl} {L : List Int} (ha : RowI w a L) (h : ∀ k, k ≤ L.length → 0 ≤ sm L k ∧ sm L k ≤ 6) (hL : L.length < 2^38) :
    Calls PP F.impl_total #[a.v] w fun e w' => e = .returned (vI (sm L L.length)) ∧ w' = w := by
  have han : a.n = L.length := by have := ha.n; simpa using this
  refine impl_total.calls a ?_
  rw [impl_total.E_s, han]
  refine impl_total.L3_rule _ _ _ _ _ _ (I := fun z i w' => w' = w ∧ 0 ≤ i ∧ i ≤ L.length ∧ z = sm L i.toNat) (μ := fun _ i _ => (L.length - i).toNat) ⟨rfl, by omega, by omega, rfl⟩ ?_
  rintro z i w' ⟨rfl, h0, hi, rfl⟩
  rw [impl_total.B3_s]
  refine bif_dec (fun h3 => ?_) (fun h3 => ?_)
  · refine RowI.get ha h0 (by omega) ?_
    have h7 := h i.toNat (by omega)
    have h8 := h (i.toNat + 1) (by omega)
    rw [sm] at h8
    refine ⟨_, i + 1, by rw [w64_succ h0 (by omega), w64_id (by omega) (by omega)], ⟨rfl, by omega, by omega, ?_⟩, by omega⟩
    rw [show (i + 1).toNat = i.toNat + 1 by omega, sm]
  · rw [impl_total.A3_0_s]
    rw [show i.toNat = L.length by omega]
    exact ⟨rfl, rfl⟩
structure FilledI (w w' : World) (B : Nat) (t : Sl) (rt rt' : List Sl) (T : List (List Int)) (s : Sl) (H : List Grp) (V : List (List (List Int))) : Prop where
  own : OwnS3 w' w.heap.size s H
  val : vals H = V
  tab : OwnRows w' B t rt' T
  stp : Stp w w' (foot t rt) (foot t rt')
  far : ∀ x, foot3 s H x → ¬ foot t rt' x
set_option maxHeartbeats 1000000 in
theorem c_filled {Fo : List Int} (hF : Fo.length ≤ 8) : ∀ (m : Nat) {w : World} {B Bf : Nat} {f t : Sl} {rt : List Sl} {T : List (List Int)} (n size : Int), m ≤ 10 → OwnI w Bf f Fo → OwnRows w B t rt T → B ≤ w.heap.size → (∀ x, foot t rt x → f.blk ≠ some x) → T.length = Fo.length → tot T + m ≤ 100 → size + 1 - n = m → 0 ≤ n → size ≤ 1000 →
    Calls PP F.impl_filled #[f.v, t.v, vI n, vI size] w fun e w' => ∃ s H rt', e = .returned s.v ∧ FilledI w w' B t rt rt' T s H (fillV Fo m T n)
  | 0, w, B, Bf, f, t, rt, T, n, size, hm10, hf, ht, hB, hft, hTl, htot, hm, hn0, hn1 => by
    refine impl_filled.calls f t n size ?_
    rw [impl_filled.E_s]
    refine bif_t (decide_eq_true (by omega)) ?_
    refine (c_copied ht.row (by omega) (by omega)).mono ?_
    rintro e w1 ⟨c, rc, rfl, hc, hb1⟩
    refine ⟨c, rfl, ?_⟩
    refine lit1 oneS3 (B := w.heap.size) hb1.size (One.sl c) ?_
    intro s w2 hs hg2 hn2
    have hb2 := below_of_grow hg2
    have hb02 := hb1.trans (hb2.mono hb1.size)
    refine ⟨s, [⟨c, rc, T⟩], rt, rfl, ⟨by simpa using hs, fun g hg => by simp at hg; subst hg; exact hc.grow hb2, by simp⟩, by simp [fillV], ht.grow hb02, Stp.grow hb02, fun x hx h2 => ?_⟩
    have := (ht.footLt h2).2
    rcases hx with hx | ⟨g, hg, hx⟩
    · have := (hs.lt x hx).1; omega
    · simp at hg; subst hg; have := (hc.footLt hx).1; omega
  | m + 1, w, B, Bf, f, t, rt, T, n, size, hm10, hf, ht, hB, hft, hTl, htot, hm, hn0, hn1 => by
    have hfn : f.n = Fo.length := by have := hf.n; simpa using this
    have hrow : ∀ r, r < T.length → (T.getD r []).length ≤ 100 := fun r hr => by
      have := len_le_tot (show T.getD r [] ∈ T by rw [getD_SS hr]; exact List.getElem_mem hr)
      omega
    have hpow : ∀ k, k ≤ 10 → Fo.length ^ k ≤ 1073741824 := fun k hk => Nat.le_trans (Nat.pow_le_pow_left hF k) (Nat.pow_le_pow_right (by omega) hk)
    refine impl_filled.calls f t n size ?_
    rw [impl_filled.E_s]
    refine bif_f (decide_eq_false (by omega)) ?_
    refine lit0 oneS3 (B := w.heap.size) (Nat.le_refl _) ?_
    intro o0 w0 ho0 hg0 hoc
    have hb0 := below_of_grow hg0
    rw [hfn]
    refine impl_filled.L5_rule _ _ _ _ _ _ _ _ _ (I := fun o r w' => 0 ≤ r ∧ r ≤ Fo.length ∧ ∃ H rt1, FilledI w w' B t rt rt1 T o H (fillR Fo m T n r.toNat)) (μ := fun _ r _ => (Fo.length - r).toNat)
      ⟨by omega, by omega, [], rt, OwnS3.nil ho0, by simp [fillR], ht.grow hb0, Stp.grow hb0, fun x hx => by simp [foot3, Sl.blk, hoc] at hx⟩ ?_
    rintro o r w1 ⟨hr0, hr, H, rt1, hO, hv, ht1, hst, hfar⟩
    have hf1 : OwnI w1 Bf f Fo := Own.keeps hf hst.keeps fun x h1 h2 => hft x h2 h1
    have hft1 : ∀ x, foot t rt1 x → ¬ f.blk = some x := hst.apart (F := fun x => f.blk = some x) (fun x hx => (hf.lt x hx).2) hft
    have hB1 : B ≤ w1.heap.size := Nat.le_trans hB hst.keeps.size
    have hsz1 := hst.keeps.size
    have hHl : H.length = (fillR Fo m T n r.toNat).length := by rw [← hv]; simp
    have hHb := fillR_len Fo m T n r.toNat
    have htn := ht1.n
    rw [impl_filled.B5_s]
    refine bif_dec (fun h3 => ?_) (fun h3 => ?_)
    · have hltF : r.toNat < Fo.length := by omega
      have hltT : r.toNat < T.length := by omega
      have hRl := hrow r.toNat hltT
      have es : (r + 1).toNat = r.toNat + 1 := by omega
      have er : w64 (r + 1) = r + 1 := w64_succ hr0 (by omega)
      have hm1 := hpow m (by omega)
      have hHb2 : r.toNat * Fo.length ^ m ≤ 8 * 1073741824 := Nat.mul_le_mul (by omega) hm1
      have stay : ∀ w2, Drew w1 w2 → ¬ okR Fo T r.toNat → ∃ o_n r_n, impl_filled.emb5 f t n size o Fo.length (w64 (r + 1)) = impl_filled.emb5 f t n size o_n Fo.length r_n ∧ (0 ≤ r_n ∧ r_n ≤ Fo.length ∧ ∃ H rt1, FilledI w w2 B t rt rt1 T o_n H (fillR Fo m T n r_n.toNat)) ∧ ((Fo.length : Int) - r_n).toNat < ((Fo.length : Int) - r).toNat := by
        intro w2 hd2 hno
        refine ⟨o, r + 1, by rw [er], ⟨by omega, by omega, H, rt1, ⟨hO.heap hd2.heap', ?_, ht1.heap hd2.heap', hst.trans (Stp.grow (hd2.below _)), hfar⟩⟩, by omega⟩
        rw [es, fillR_succ, if_neg hno, List.append_nil]; exact hv
      have step : ∀ w2, Drew w1 w2 → okR Fo T r.toNat → idxK 1 t r fun a5 => load1 .sl a5 w2 fun (ξ : Sl) => sem1 .sl PP (Instr.buildSlice T_Sint 1 #[(0, vI n)]) w2 fun (ρ7 : Sl) w4 =>
          sem1 .sl PP (Builtin.append_ #[T_Sint, T_Sint] T_Sint #[ξ.v, ρ7.v]) w4 fun (ρ9 : Sl) w5 => idxK 1 t r fun a6 => storeC a6 ρ9.v w5 fun w6 => call1 .sl PP F.impl_filled #[f.v, t.v, vI (w64 (n + 1)), vI size] w6 fun (ρ21 : Sl) w7 =>
          sem1 .sl PP (Builtin.append_ #[T_SSSint, T_SSSint] T_SSSint #[o.v, ρ21.v]) w7 fun (ρ23 : Sl) w8 => drewAll w8 fun w9 => idxK 1 t r fun a26 => idxK 1 t r fun a27 =>
          (load1 .sl a26 w9 fun (ξ28 : Sl) => load1 .sl a27 w9 fun (ξ29 : Sl) => cutK 1 ξ28 none (some (w64 ((ξ29.n : Int) - 1))) fun (s30 : Sl) => idxK 1 t r fun a31 => storeC a31 s30.v w9 fun w10 =>
            ∃ o_n r_n, impl_filled.emb5 f t n size ρ23 Fo.length (w64 (r + 1)) = impl_filled.emb5 f t n size o_n Fo.length r_n ∧ (0 ≤ r_n ∧ r_n ≤ Fo.length ∧ ∃ H rt1, FilledI w w10 B t rt rt1 T o_n H (fillR Fo m T n r_n.toNat)) ∧ ((Fo.length : Int) - r_n).toNat < ((Fo.length : Int) - r).toNat) ∧
          (load1 .sl a27 w9 fun (ξ33 : Sl) => load1 .sl a26 w9 fun (ξ34 : Sl) => cutK 1 ξ34 none (some (w64 ((ξ33.n : Int) - 1))) fun (s35 : Sl) => idxK 1 t r fun a36 => storeC a36 s35.v w9 fun w10 =>
            ∃ o_n r_n, impl_filled.emb5 f t n size ρ23 Fo.length (w64 (r + 1)) = impl_filled.emb5 f t n size o_n Fo.length r_n ∧ (0 ≤ r_n ∧ r_n ≤ Fo.length ∧ ∃ H rt1, FilledI w w10 B t rt rt1 T o_n H (fillR Fo m T n r_n.toNat)) ∧ ((Fo.length : Int) - r_n).toNat < ((Fo.length : Int) - r).toNat) := by
        intro w2 hd2 hok
        have hh := hd2.heap'
        have hB2 : B ≤ w2.heap.size := by rw [hh]; exact hB1
        have hO2 := hO.heap hh
        refine (ht1.heap hh).appendAtF hr0 (by omega) hB2 (by omega) fun w6 rt2 ht6 hst6 => ?_
        have hst06 : Stp w w6 (foot t rt) (foot t rt2) := (hst.trans (Stp.grow (hd2.below _))).trans hst6
        have hB6 : B ≤ w6.heap.size := Nat.le_trans hB2 hst6.keeps.size
        have hO6 := hO2.keepsF hst6.keeps hfar
        have hfar6 : ∀ x, foot3 o H x → ¬ foot t rt2 x := fun x h1 h2 => hst6.apart (F := foot3 o H) (fun x hx => (hO2.footLt hx).2) (fun x h3 h4 => hfar x h4 h3) x h2 h1
        have hf6 : OwnI w6 Bf f Fo := Own.keeps (Own.heap hf1 hh) hst6.keeps fun x h1 h2 => hft1 x h2 h1
        have hft6 : ∀ x, foot t rt2 x → ¬ f.blk = some x := hst6.apart (F := fun x => f.blk = some x) (fun x hx => by rw [hh]; exact (hf1.lt x hx).2) hft1
        rw [w64_add (a := n) (b := 1) (by omega) (by omega) (by omega) (by omega)]
        have htt := tot_set hltT (T.getD r.toNat [] ++ [n])
        rw [List.length_append, List.length_singleton] at htt
        refine (c_filled hF m (n + 1) size (by omega) hf6 ht6 hB6 hft6 (by rw [List.length_set]; exact hTl) (by omega) (by omega) (by omega) (by omega)).mono ?_
        rintro e w7 ⟨s2, H2, rt3, rfl, h7o, h7v, h7t, h7s, h7f⟩
        refine ⟨s2, rfl, ?_⟩
        have hO7 := hO6.keepsF h7s.keeps hfar6
        have hfar7 : ∀ x, foot3 o H x → ¬ foot t rt3 x := fun x h1 h2 => h7s.apart (F := foot3 o H) (fun x hx => (hO6.footLt hx).2) (fun x h3 h4 => hfar6 x h4 h3) x h2 h1
        have hsz6 := hst06.keeps.size
        have hsz7 := h7s.keeps.size
        have hH2l : H2.length ≤ 1073741824 := by
          have h8 := fillV_len Fo m (T.set r.toNat (T.getD r.toNat [] ++ [n])) (n + 1)
          have h9 : H2.length = (fillV Fo m (T.set r.toNat (T.getD r.toNat [] ++ [n])) (n + 1)).length := by rw [← h7v]; simp
          omega
        refine append_many3 hO7 (by omega) (h7o.mono (by omega)) (fun g hg k hk x h1 h2 => by
          have := (hO6.footLt (.inr ⟨g, hg, h1⟩)).2
          have := (h7o.footLt (.inr ⟨k, hk, h2⟩)).1
          omega) (by omega) ?_
        intro o' w8 ho8 hg8 hn8
        have k8 := keeps_grown hg8
        have ht8 := h7t.keepsF k8 fun x h1 h2 => OwnRows.outer hO7.out h7t h2 h1
        have hst07 := hst06.trans h7s
        have hst08 : Stp w w8 (foot t rt) (foot t rt3) := by
          refine ⟨⟨k8.os.trans hst07.keeps.os, k8.tape.trans hst07.keeps.tape, k8.output.trans hst07.keeps.output, Nat.le_trans hst07.keeps.size k8.size, fun x hx hn => ?_⟩, hst07.next⟩
          rw [k8.block x (Nat.lt_of_lt_of_le hx hst07.keeps.size) (fun e => by have := (hO7.out.lt x e).1; omega)]
          exact hst07.keeps.block x hx hn
        have hfar8 : ∀ x, foot3 o' (H ++ H2) x → ¬ foot t rt3 x := by
          rintro x (h1 | ⟨g, hg, h1⟩) h2
          · rcases hn8 x h1 with h3 | h3
            · exact hfar7 x (.inl h3) h2
            · have := (h7t.footLt h2).2; omega
          · rcases List.mem_append.1 hg with hg | hg
            · exact hfar7 x (.inr ⟨g, hg, h1⟩) h2
            · exact h7f x (.inr ⟨g, hg, h1⟩) h2
        refine drew_intro fun w9 hd9 => ?_
        have hh9 := hd9.heap'
        have ht9 := ht8.heap hh9
        have ho9 := ho8.heap hh9
        have hst09 : Stp w w9 (foot t rt) (foot t rt3) := hst08.trans (Stp.grow (hd9.below _))
        obtain ⟨u, hu, hou⟩ := ht9.get (i := r.toNat) (by rw [List.length_set]; exact hltT)
        have eu : (T.set r.toNat (T.getD r.toNat [] ++ [n])).getD r.toNat [] = T.getD r.toNat [] ++ [n] := by rw [getD_setR, if_pos ⟨rfl, hltT⟩]
        rw [eu] at hou
        have hun : u.n = (T.getD r.toNat []).length + 1 := by have := hou.n; simpa using this
        refine ht9.placeT hr0 (by rw [List.length_set]; omega) hu fun a26 _ hc26 => ?_
        refine ht9.placeT hr0 (by rw [List.length_set]; omega) hu fun a27 _ hc27 => ?_
        have hum := List.mem_of_getElem? hu
        have fin : cutK 1 u none (some (w64 ((u.n : Int) - 1))) fun (s30 : Sl) => idxK 1 t r fun a31 => storeC a31 s30.v w9 fun w10 =>
            ∃ o_n r_n, impl_filled.emb5 f t n size o' Fo.length (w64 (r + 1)) = impl_filled.emb5 f t n size o_n Fo.length r_n ∧ (0 ≤ r_n ∧ r_n ≤ Fo.length ∧ ∃ H rt1, FilledI w w10 B t rt rt1 T o_n H (fillR Fo m T n r_n.toNat)) ∧ ((Fo.length : Int) - r_n).toNat < ((Fo.length : Int) - r).toNat := by
          rw [hun, w64_id (n := (((T.getD r.toNat []).length + 1 : Nat) : Int) - 1) (by omega) (by omega), show (((T.getD r.toNat []).length + 1 : Nat) : Int) - 1 = ((T.getD r.toNat []).length : Int) by omega]
          refine Own.pop hou (by omega) (by rw [List.length_map, List.length_append, List.length_singleton]; omega) fun s hs hblk => ?_
          rw [Int.toNat_natCast, ← List.map_take, List.take_left] at hs
          refine ht9.storeK (S := fun _ => False) hr0 (by rw [List.length_set]; omega) hu (Keeps.refl _ _) (fun _ _ hf => hf.elim) hs (fun g hg => .inl (by rw [← hblk]; exact hg)) fun w10 ht10 hg10 st10 => ?_
          have eT : (T.set r.toNat (T.getD r.toNat [] ++ [n])).set r.toNat (T.getD r.toNat []) = T := by
            rw [List.set_set, getD_SS hltT, List.set_getElem_self]
          rw [eT] at ht10
          have st10' : Stp w9 w10 (foot t rt3) (foot t (rt3.set r.toNat s)) := ⟨st10.keeps.mono fun k e => e.elim False.elim id, fun g hg => (st10.next g hg).imp (fun e => e.elim False.elim id) id⟩
          have ho10 := ho9.keepsF st10'.keeps fun x h1 h2 => hfar8 x h1 h2
          refine ⟨o', r + 1, by rw [er], ⟨by omega, by omega, H ++ H2, rt3.set r.toNat s, ⟨ho10, ?_, ht10, hst09.trans st10', fun x h1 h2 => ?_⟩⟩, by omega⟩
          · rw [es, fillR_succ, if_pos hok, ← hv, ← h7v]; simp
          · refine hfar8 x h1 ?_
            rcases h2 with h2 | ⟨q, hq, h2⟩
            · exact .inl h2
            · rcases List.mem_or_eq_of_mem_set hq with hq | rfl
              · exact .inr ⟨q, hq, h2⟩
              · exact .inr ⟨u, hum, by rw [← hblk]; exact h2⟩
        exact ⟨load_sl hc26 (load_sl hc27 fin), load_sl hc27 (load_sl hc26 fin)⟩
      refine ht1.load hr0 (by omega) fun ρ _ hρ => ?_
      have hρn : ρ.n = (T.getD r.toNat []).length := by have := hρ.n; simpa using this
      refine RowI.get hf1.row hr0 (by omega) ?_
      rw [hρn]
      refine bif_dec (fun h4 => ?_) (fun h4 => ?_)
      · refine bif_intro (fun h5 => ?_) (fun h5 => ?_)
        · have h5' : r = 0 := eq_of_beq h5
          refine drew_intro fun w2 hd2 => ?_
          exact step w2 hd2 ⟨h4, .inl (by omega)⟩
        · have h5' : r ≠ 0 := ne_of_beq_false h5
          have e1 : w64 (r - 1) = r - 1 := w64_id (by omega) (by omega)
          rw [e1]
          refine ht1.load (i := r - 1) (by omega) (by omega) fun ρ3 _ hρ3 => ?_
          have hρ3n : ρ3.n = (T.getD (r - 1).toNat []).length := by have := hρ3.n; simpa using this
          refine ht1.load hr0 (by omega) fun ρ2 _ hρ2 => ?_
          have hρ2n : ρ2.n = (T.getD r.toNat []).length := by have := hρ2.n; simpa using this
          rw [hρ2n, hρ3n, show (r - 1).toNat = r.toNat - 1 by omega]
          refine drew_intro fun w2 hd2 => ?_
          refine bif_dec (fun h6 => ?_) (fun h6 => ?_)
          · exact step w2 hd2 ⟨h4, .inr (by omega)⟩
          · exact stay w2 hd2 fun hh => by rcases hh.2 with h7 | h7 <;> omega
      · refine drew_intro fun w2 hd2 => ?_
        exact stay w2 hd2 fun hh => h4 hh.1
    · rw [impl_filled.A5_0_s]
      refine ⟨o, H, rt1, rfl, hO, ?_, ht1, hst, hfar⟩
      rw [fillV_succ, show Fo.length = r.toNat by omega]; exact hv
open Classical in
theorem c_implTableauxOf {w : World} {Bf : Nat} {f : Sl} {Fo : List Int} (hf : OwnI w Bf f Fo) (hL : Fo.length < 2^38) (hbd : ∀ x ∈ Fo, -9223372036854775808 ≤ x ∧ x ≤ 9223372036854775807) :
    Calls PP F.impl_TableauxOf #[f.v] w fun e w' => ∃ (s : Sl) (G : List Grp), e = .returned s.v ∧ OwnS3 w' w.heap.size s G ∧ vals G = TableauxOfV Fo ∧ Below w.heap.size w w' := by
  have hfn : f.n = Fo.length := by have := hf.n; simpa using this
  refine impl_TableauxOf.calls f ?_
  rw [impl_TableauxOf.E_s]
  refine Quiet.call1 (s := .bool) (c_isForm hf.row (by omega) hbd (most := 6) (by omega) (by omega)) ?_
  intro w1 hd1
  have hb1 := hd1.below w.heap.size
  refine bif_intro (fun h => ?_) (fun h => ?_)
  · have hn : ¬ FormOk Fo 6 := by simpa using h
    rw [TableauxOfV, if_neg hn]
    exact ⟨Sl.nil, [], rfl, OwnS3.nil (Own.nil _ _ _), rfl, hb1⟩
  have hP : FormOk Fo 6 := by simpa using h
  rw [TableauxOfV, if_pos hP]
  obtain ⟨f1, f2, f3, f4⟩ := formOk_facts hP
  obtain ⟨mN, hm⟩ : ∃ mN : Nat, sm Fo Fo.length = mN := ⟨(sm Fo Fo.length).toNat, by omega⟩
  rw [hm, Int.toNat_natCast, hfn]
  refine drew_intro fun w2 hd2 => ?_
  have hb2 : Below w.heap.size w w2 := hb1.trans (hd2.below _)
  have hf2 := Own.grow hf hb2
  have fin : ∀ w3 t, Below w.heap.size w w3 → Own w3 w.heap.size T_Sint t (List.replicate Fo.length Sl.nil.v) → call1 .sl PP F.impl_filled #[f.v, t.v, vI 1, vI (mN : Int)] w3 fun (ρ7 : Sl) w8 =>
      ∃ (s : Sl) (G : List Grp), Ending.returned ρ7.v = .returned s.v ∧ OwnS3 w8 w.heap.size s G ∧ vals G = fillV Fo mN (List.replicate Fo.length []) 1 ∧ Below w.heap.size w w8 := by
    intro w3 t hb3 ht
    have htr := OwnRows.replicate ht
    refine (c_filled (by omega) mN 1 mN (by omega) (Own.grow hf hb3) htr hb3.size (fun x h1 h2 => by have := (htr.footLt h1).1; have := (hf.lt x h2).2; omega) (by rw [List.length_replicate]) (by rw [tot_replicate]; omega) (by omega) (by omega) (by omega)).mono ?_
    rintro e w8 ⟨s, H, rt', rfl, h8⟩
    exact ⟨s, rfl, s, H, rfl, h8.own.mono hb3.size, h8.val, hb3.trans (h8.stp.below (fun g hg => (htr.footLt hg).1) hb3.size)⟩
  refine ⟨?_, ?_⟩
  · refine make_own oneSint (B := w.heap.size) hb2.size (by omega) (by omega) ?_
    intro t w4 ht hg4 _
    have hb4 := hb2.trans ((below_of_grow hg4).mono hb2.size)
    rw [Int.toNat_natCast] at ht
    refine (c_total (hf.row.grow hb4) f4 (by omega)).mono ?_
    rintro e w5 ⟨rfl, rfl⟩
    refine ⟨_, rfl, ?_⟩
    rw [hm]
    exact fin w5 t hb4 ht
  · refine (c_total hf2.row f4 (by omega)).mono ?_
    rintro e w5 ⟨rfl, rfl⟩
    refine ⟨_, rfl, ?_⟩
    rw [hm]
    refine make_own oneSint (B := w.heap.size) hb2.size (by omega) (by omega) ?_
    intro t w4 ht hg4 _
    have hb4 := hb2.trans ((below_of_grow hg4).mono hb2.size)
    rw [Int.toNat_natCast] at ht
    exact fin w4 t hb4 ht
theorem TableauxOfV_len (Fo : List Int) : (TableauxOfV Fo).length < 2^38 ∧ tot3 (TableauxOfV Fo) < 2^38 := by
  classical
  by_cases h : FormOk Fo 6
  · obtain ⟨f1, f2, f3, f4⟩ := formOk_facts h
    rw [TableauxOfV, if_pos h]
    have h1 := fillV_len Fo (sm Fo Fo.length).toNat (List.replicate Fo.length []) 1
    have h2 := pow_small (a := Fo.length) (m := (sm Fo Fo.length).toNat) f1 (by omega)
    have h3 := tot3_le_of (G := fillV Fo (sm Fo Fo.length).toNat (List.replicate Fo.length []) 1) (c := 20) fun U hU => by
      obtain ⟨a1, a2⟩ := fill_shape Fo _ _ _ (by rw [List.length_replicate]) U hU
      rw [tot_replicate] at a2
      omega
    omega
  · rw [TableauxOfV, if_neg h]; simp [tot3]
end Go.Proofs.Ytdchjhhpbdekeaa
