/- Rows of rows in memory: what such a slice reads, what a call owns of it, and what appends, loads and stores do to both. -/
import Derived.Test.YtmhgjfahgemblaaMem
namespace Go.Proofs.Ytmhgjfahgemblaa
open Go Go.RowKit
set_option maxRecDepth 100000

theorem oneSint : OneT T_SSint T_Sint Sl.nil.v := oneT_of (by kernel_rfl) (by kernel_rfl) rfl
theorem ne_int_Sint : T_int ≠ T_Sint := by decide

/-- The blocks of two slices are not the same. -/
def Apt (s t : Sl) : Prop := ∀ g, s.blk = some g → t.blk ≠ some g
theorem Apt.symm {s t : Sl} (h : Apt s t) : Apt t s := fun g h1 h2 => h g h2 h1
theorem Apt.next {w : World} {s s' t : Sl} (h : Apt s t) (hn : Next w s s') (ht : ∀ g, t.blk = some g → g < w.heap.size) : Apt s' t := fun g h1 h2 => by
  rcases hn g h1 with h3 | h3
  · exact h g h3 h2
  · have := ht g h2; omega
theorem Apt.of_blk {s s' t : Sl} (h : Apt s t) (he : s'.blk = s.blk) : Apt s' t := fun g h1 h2 => h g (he ▸ h1) h2
theorem Apt.of_lt {s t : Sl} {C : Nat} (h1 : ∀ g, s.blk = some g → g < C) (h2 : ∀ g, t.blk = some g → C ≤ g) : Apt s t := fun g h3 h4 => by
  have := h1 g h3; have := h2 g h4; omega
theorem Own.heapAt {w B e s vs} (h : Own w B e s vs) {g : Nat} (hg : s.blk = some g) : ∃ cur, w.heap[g]? = some (.cells cur e (0, 0)) := by
  unfold Sl.blk at hg
  split at hg
  · cases hg
  · rcases h.at_ with h0 | ⟨g', cur, ha, hb, hg', _⟩
    · omega
    · rw [ha] at hg; simp at hg; subst hg; exact ⟨cur, hg'⟩
theorem Own.apt {w B e s vs B' e' t us} (h : Own w B e s vs) (h' : Own w B' e' t us) (hne : e ≠ e') : Apt s t := fun g h1 h2 => by
  obtain ⟨c1, k1⟩ := h.heapAt h1
  obtain ⟨c2, k2⟩ := h'.heapAt h2
  rw [k1] at k2
  simp only [Option.some.injEq, Obj.cells.injEq] at k2
  exact hne k2.2.1

/-- What two worlds have in common: every block outside S. -/
structure Keeps (S : Nat → Prop) (w w' : World) : Prop where
  os : w'.os = w.os
  tape : w'.tape = w.tape
  output : w'.output = w.output
  size : w.heap.size ≤ w'.heap.size
  block : ∀ k, k < w.heap.size → ¬ S k → w'.heap[k]? = w.heap[k]?
theorem Keeps.refl (S : Nat → Prop) (w : World) : Keeps S w w := ⟨rfl, rfl, rfl, Nat.le_refl _, fun _ _ _ => rfl⟩
theorem Keeps.trans {S : Nat → Prop} {a b c : World} (h : Keeps S a b) (k : Keeps S b c) : Keeps S a c :=
  ⟨k.os.trans h.os, k.tape.trans h.tape, k.output.trans h.output, Nat.le_trans h.size k.size, fun x hx hne => (k.block x (Nat.lt_of_lt_of_le hx h.size) hne).trans (h.block x hx hne)⟩
theorem Keeps.mono {S T : Nat → Prop} {a b : World} (h : Keeps S a b) (hST : ∀ k, S k → T k) : Keeps T a b := ⟨h.os, h.tape, h.output, h.size, fun x hx hne => h.block x hx fun hs => hne (hST x hs)⟩
theorem Keeps.below {S : Nat → Prop} {a b : World} {B : Nat} (h : Keeps S a b) (hS : ∀ k, S k → B ≤ k) (hB : B ≤ a.heap.size) : Below B a b := ⟨h.os, h.tape, h.output, h.size, fun x hx => h.block x (by omega) fun hs => by have := hS x hs; omega⟩
theorem keeps_grown {a b : World} {r : Option Nat} (h : a.grownBy b r) : Keeps (fun k => r = some k) a b := ⟨h.os, h.tape, h.output, h.size, fun x hx hne => h.block x hx (fun e => hne e.symm)⟩
theorem Drew.keeps {a b : World} (h : Drew a b) (S : Nat → Prop) : Keeps S a b := by obtain ⟨n, rfl⟩ := h; exact ⟨rfl, rfl, rfl, Nat.le_refl _, fun _ _ _ => rfl⟩
theorem Own.keeps {S : Nat → Prop} {w w' B e s vs} (h : Own w B e s vs) (hk : Keeps S w w') (hn : ∀ g, s.blk = some g → ¬ S g) : Own w' B e s vs := by
  refine ⟨h.n, h.nc, h.cm, ?_⟩
  rcases h.at_ with h0 | ⟨g, cur, ha, hb, hh, rest⟩
  · exact .inl h0
  · by_cases hc : s.c = 0
    · exact .inl hc
    · refine .inr ⟨g, cur, ha, hb, ?_, rest⟩
      have : s.blk = some g := by simp [Sl.blk, hc, ha]
      rw [hk.block g (h.lt g this).2 (hn g this)]
      exact hh

/-! ### Reading -/
structure RowsI (w : World) (s : Sl) (rs : List Sl) (LL : List (List Int)) : Prop where
  out : Row w s (rs.map Sl.v)
  len : rs.length = LL.length
  at_ : ∀ (i : Nat) (r : Sl) (L : List Int), rs[i]? = some r → LL[i]? = some L → RowI w r L
/-- What a slice of rows reads. -/
def RowSS (w : World) (s : Sl) (LL : List (List Int)) : Prop := ∃ rs, RowsI w s rs LL
theorem RowSS.n {w s LL} (h : RowSS w s LL) : s.n = LL.length := by obtain ⟨rs, h⟩ := h; have := h.out.n; have := h.len; simp_all
theorem RowSS.grow {w w' s LL} (h : RowSS w s LL) (hb : Below w.heap.size w w') : RowSS w' s LL := by
  obtain ⟨rs, h⟩ := h
  exact ⟨rs, h.out.grow hb, h.len, fun i r L h1 h2 => (h.at_ i r L h1 h2).grow hb⟩
theorem RowSS.heap {w w' s LL} (h : RowSS w s LL) (hh : w'.heap = w.heap) : RowSS w' s LL := by
  obtain ⟨rs, h⟩ := h
  exact ⟨rs, h.out.heap hh, h.len, fun i r L h1 h2 => (h.at_ i r L h1 h2).heap hh⟩
theorem RowSS.get {w s LL} (h : RowSS w s LL) {i : Int} (h0 : 0 ≤ i) (hi : i < LL.length) {K : Sl → Prop} (hk : ∀ r, RowI w r (LL.getD i.toNat []) → K r) : idxK 1 s i fun a => load1 .sl a w K := by
  obtain ⟨rs, h⟩ := h
  have hlt : i.toNat < rs.length := by have := h.len; omega
  have hlt2 : i.toNat < LL.length := by omega
  refine Row.get (sh := .sl) (r := rs[i.toNat]) h.out h0 ?_ (hk _ ?_)
  · rw [List.getElem?_map, List.getElem?_eq_getElem hlt]; rfl
  · refine h.at_ i.toNat _ _ (List.getElem?_eq_getElem hlt) ?_
    simp [List.getD_eq_getElem?_getD, List.getElem?_eq_getElem hlt2]
theorem RowSS.place {w s LL} (h : RowSS w s LL) {i : Int} (h0 : 0 ≤ i) (hi : i < LL.length) {K : Addr → Prop} (hk : ∀ a (r : Sl), w.cell? a = some r.v → RowI w r (LL.getD i.toNat []) → K a) : idxK 1 s i K := by
  obtain ⟨rs, h⟩ := h
  have hlt : i.toNat < rs.length := by have := h.len; omega
  have hlt2 : i.toNat < LL.length := by omega
  obtain ⟨a, ha, hc⟩ := h.out.cell i.toNat rs[i.toNat].v (by rw [List.getElem?_map, List.getElem?_eq_getElem hlt]; rfl)
  have hn := h.out.n
  refine ⟨a, ha, h0, by rw [hn]; simp; omega, ?_⟩
  rw [Nat.mul_one]
  refine hk _ _ hc (h.at_ i.toNat _ _ (List.getElem?_eq_getElem hlt) ?_)
  simp [List.getD_eq_getElem?_getD, List.getElem?_eq_getElem hlt2]
theorem getD_SS {LL : List (List Int)} {i : Nat} (h : i < LL.length) : LL.getD i [] = LL[i] := by simp [List.getD_eq_getElem?_getD, List.getElem?_eq_getElem h]
def tot (LL : List (List Int)) : Nat := (LL.map List.length).sum
theorem tot_nil : tot [] = 0 := rfl
theorem tot_cons (L : List Int) (r : List (List Int)) : tot (L :: r) = L.length + tot r := by simp [tot]
theorem tot_append (A B : List (List Int)) : tot (A ++ B) = tot A + tot B := by simp [tot]
theorem len_le_tot {LL : List (List Int)} {L : List Int} (h : L ∈ LL) : L.length ≤ tot LL := by
  induction LL with
  | nil => simp at h
  | cons M r ih =>
    rw [tot_cons]
    rcases List.mem_cons.1 h with rfl | h
    · omega
    · have := ih h; omega
theorem tot_take_succ {LL : List (List Int)} {i : Nat} (h : i < LL.length) : tot (LL.take (i + 1)) = tot (LL.take i) + (LL.getD i []).length := by
  rw [getD_SS h, List.take_succ_eq_append_getElem h, tot_append]; simp [tot]
theorem tot_take_le (LL : List (List Int)) (i : Nat) : tot (LL.take i) ≤ tot LL := by
  have : tot LL = tot (LL.take i) + tot (LL.drop i) := by rw [← tot_append, List.take_append_drop]
  omega
/-- The same, the row's reading told of an older world. -/
theorem RowSS.getB {w0 w s LL} (h : RowSS w0 s LL) (hb : Below w0.heap.size w0 w) {i : Int} (h0 : 0 ≤ i) (hi : i < LL.length) {K : Sl → Prop} (hk : ∀ r, RowI w0 r (LL.getD i.toNat []) → K r) : idxK 1 s i fun a => load1 .sl a w K := by
  obtain ⟨rs, h⟩ := h
  have hlt : i.toNat < rs.length := by have := h.len; omega
  have hlt2 : i.toNat < LL.length := by omega
  refine Row.get (sh := .sl) (r := rs[i.toNat]) (h.out.grow hb) h0 ?_ (hk _ ?_)
  · rw [List.getElem?_map, List.getElem?_eq_getElem hlt]; rfl
  · refine h.at_ i.toNat _ _ (List.getElem?_eq_getElem hlt) ?_
    simp [List.getD_eq_getElem?_getD, List.getElem?_eq_getElem hlt2]
/-- 'rows[:i]'. -/
theorem RowSS.take {w s LL} (h : RowSS w s LL) {i : Nat} (hi : i ≤ LL.length) {K : Sl → Prop} (hK : ∀ t : Sl, RowSS w t (LL.take i) → K t) : cutK 1 s none (some (i : Int)) K := by
  obtain ⟨rs, h⟩ := h
  have hn := h.out.n
  have hl := h.len
  rw [List.length_map] at hn
  refine Row.cut h.out (by simp) (by simp) (by simp; omega) fun t ht => hK t ⟨rs.take i, ?_, by simp; omega, fun j r L e1 e2 => ?_⟩
  · have e : (List.take ((some (i : Int)).getD (s.n : Int)).toNat (rs.map Sl.v)).drop ((none : Option Int).getD 0).toNat = (rs.take i).map Sl.v := by simp
    rw [e] at ht; exact ht
  · rw [List.getElem?_take] at e1 e2
    split at e1
    · rename_i hj
      rw [if_pos hj] at e2
      exact h.at_ j r L e1 e2
    · cases e1
theorem load_sl {w : World} {a : Addr} {r : Sl} (h : w.cell? a = some r.v) {K : Sl → Prop} (hk : K r) : load1 .sl a w K := ⟨r, h, hk⟩

/-! ### Owning -/
structure OwnRows (w : World) (B : Nat) (s : Sl) (rs : List Sl) (LL : List (List Int)) : Prop where
  out : Own w B T_Sint s (rs.map Sl.v)
  len : rs.length = LL.length
  at_ : ∀ (i : Nat) (r : Sl) (L : List Int), rs[i]? = some r → LL[i]? = some L → OwnI w B r L
  apt : ∀ (i j : Nat) (r t : Sl), i ≠ j → rs[i]? = some r → rs[j]? = some t → Apt r t
def OwnSS (w : World) (B : Nat) (s : Sl) (LL : List (List Int)) : Prop := ∃ rs, OwnRows w B s rs LL
theorem OwnRows.rows {w B s rs LL} (h : OwnRows w B s rs LL) : RowsI w s rs LL := ⟨h.out.row, h.len, fun i r L h1 h2 => (h.at_ i r L h1 h2).row⟩
theorem OwnRows.row {w B s rs LL} (h : OwnRows w B s rs LL) : RowSS w s LL := ⟨rs, h.rows⟩
theorem OwnSS.row {w B s LL} (h : OwnSS w B s LL) : RowSS w s LL := by obtain ⟨rs, h⟩ := h; exact h.row
theorem OwnRows.n {w B s rs LL} (h : OwnRows w B s rs LL) : s.n = LL.length := h.row.n
theorem OwnRows.own {w B s rs LL} (h : OwnRows w B s rs LL) {r : Sl} (hr : r ∈ rs) : ∃ L, L ∈ LL ∧ OwnI w B r L := by
  obtain ⟨i, hi, rfl⟩ := List.getElem_of_mem hr
  have : i < LL.length := by have := h.len; omega
  exact ⟨LL[i], List.getElem_mem this, h.at_ i _ _ (List.getElem?_eq_getElem hi) (List.getElem?_eq_getElem this)⟩
theorem OwnRows.lt {w B s rs LL} (h : OwnRows w B s rs LL) {r : Sl} (hr : r ∈ rs) {g : Nat} (hg : r.blk = some g) : B ≤ g ∧ g < w.heap.size := by
  obtain ⟨L, _, ho⟩ := h.own hr; exact ho.lt g hg
theorem OwnRows.keeps {S : Nat → Prop} {w w' B s rs LL} (h : OwnRows w B s rs LL) (hk : Keeps S w w') (h1 : ∀ g, s.blk = some g → ¬ S g) (h2 : ∀ r ∈ rs, ∀ g, r.blk = some g → ¬ S g) : OwnRows w' B s rs LL :=
  ⟨h.out.keeps hk h1, h.len, fun i r L e1 e2 => (h.at_ i r L e1 e2).keeps hk (h2 r (List.mem_of_getElem? e1)), h.apt⟩
theorem OwnRows.keepsLt {S : Nat → Prop} {w w' B s rs LL} (h : OwnRows w B s rs LL) (hk : Keeps S w w') (hS : ∀ k, S k → k < B) : OwnRows w' B s rs LL :=
  h.keeps hk (fun g hg hs => by have := hS g hs; have := h.out.lt g hg; omega) (fun r hr g hg hs => by have := hS g hs; have := h.lt hr hg; omega)
theorem OwnRows.below {w w' B B2 s rs LL} (h : OwnRows w B s rs LL) (hb : Below B2 w w') (h1 : ∀ g, s.blk = some g → g < B2) (h2 : ∀ r ∈ rs, ∀ g, r.blk = some g → g < B2) : OwnRows w' B s rs LL :=
  ⟨h.out.below hb h1, h.len, fun i r L e1 e2 => (h.at_ i r L e1 e2).below hb (h2 r (List.mem_of_getElem? e1)), h.apt⟩
theorem OwnRows.grow {w w' B s rs LL} (h : OwnRows w B s rs LL) (hb : Below w.heap.size w w') : OwnRows w' B s rs LL :=
  h.below hb (fun g hg => (h.out.lt g hg).2) (fun r hr g hg => (h.lt hr hg).2)
theorem OwnSS.grow {w w' B s LL} (h : OwnSS w B s LL) (hb : Below w.heap.size w w') : OwnSS w' B s LL := by obtain ⟨rs, h⟩ := h; exact ⟨rs, h.grow hb⟩
theorem Own.grow {w w' B e s vs} (h : Own w B e s vs) (hb : Below w.heap.size w w') : Own w' B e s vs := h.below hb (fun g hg => (h.lt g hg).2)
theorem OwnRows.heap {w w' B s rs LL} (h : OwnRows w B s rs LL) (hh : w'.heap = w.heap) : OwnRows w' B s rs LL :=
  ⟨h.out.heap hh, h.len, fun i r L e1 e2 => (h.at_ i r L e1 e2).heap hh, h.apt⟩
theorem OwnSS.heap {w w' B s LL} (h : OwnSS w B s LL) (hh : w'.heap = w.heap) : OwnSS w' B s LL := by obtain ⟨rs, h⟩ := h; exact ⟨rs, h.heap hh⟩
theorem OwnRows.mono {w B B' s rs LL} (h : OwnRows w B s rs LL) (hb : B' ≤ B) : OwnRows w B' s rs LL :=
  ⟨h.out.mono hb, h.len, fun i r L e1 e2 => (h.at_ i r L e1 e2).mono hb, h.apt⟩
theorem OwnSS.mono {w B B' s LL} (h : OwnSS w B s LL) (hb : B' ≤ B) : OwnSS w B' s LL := by obtain ⟨rs, h⟩ := h; exact ⟨rs, h.mono hb⟩
theorem OwnRows.nil {w B s} (h : Own w B T_Sint s []) : OwnRows w B s [] [] := ⟨h, rfl, fun i r L e1 => by simp at e1, fun i j r t _ e1 => by simp at e1⟩
theorem OwnSS.nil {w B s} (h : Own w B T_Sint s []) : OwnSS w B s [] := ⟨[], OwnRows.nil h⟩
theorem OwnSS.none (w : World) (B : Nat) : OwnSS w B Sl.nil [] := OwnSS.nil (Own.nil w B _)

theorem getElem?_snoc {α : Type} {l : List α} {x y : α} {i : Nat} (h : (l ++ [x])[i]? = some y) : (i < l.length ∧ l[i]? = some y) ∨ (i = l.length ∧ y = x) := by
  rcases Nat.lt_trichotomy i l.length with h1 | h1 | h1
  · rw [List.getElem?_append_left h1] at h; exact .inl ⟨h1, h⟩
  · subst h1; simp at h; exact .inr ⟨rfl, h.symm⟩
  · rw [List.getElem?_eq_none (by simp; omega)] at h; cases h

/-- One more row, apart from all others. -/
theorem OwnRows.push {w w' B s s' rs LL r L} (h : OwnRows w B s rs LL) (hr : OwnI w B r L) (hap : ∀ t ∈ rs, Apt t r) (ho : Own w' B T_Sint s' (rs.map Sl.v ++ [r.v])) (hg : w.grownBy w' s.blk) :
    OwnRows w' B s' (rs ++ [r]) (LL ++ [L]) := by
  have kept : ∀ t M, OwnI w B t M → OwnI w' B t M := fun t M ht => ht.kept hg (fun g hg' e => (h.out.apt ht (by decide)) g e hg')
  refine ⟨by simpa using ho, by simp [h.len], fun i t M e1 e2 => ?_, fun i j t u hij e1 e2 => ?_⟩
  · have hl := h.len
    rcases getElem?_snoc e1 with ⟨h1, h2⟩ | ⟨h1, rfl⟩
    · rcases getElem?_snoc e2 with ⟨h3, h4⟩ | ⟨h3, rfl⟩
      · exact kept _ _ (h.at_ i t M h2 h4)
      · omega
    · rcases getElem?_snoc e2 with ⟨h3, h4⟩ | ⟨h3, rfl⟩
      · omega
      · exact kept _ _ hr
  · rcases getElem?_snoc e1 with ⟨h1, h2⟩ | ⟨h1, rfl⟩
    · rcases getElem?_snoc e2 with ⟨h3, h4⟩ | ⟨h3, rfl⟩
      · exact h.apt i j t u hij h2 h4
      · exact hap t (List.mem_of_getElem? h2)
    · rcases getElem?_snoc e2 with ⟨h3, h4⟩ | ⟨h3, rfl⟩
      · exact (hap u (List.mem_of_getElem? h4)).symm
      · omega
/-- More rows, apart from all others. -/
theorem OwnRows.pushMany {w w' B s s' s2 rs LL rs2 MM} (h : OwnRows w B s rs LL) (h2 : OwnRows w B s2 rs2 MM) (hap : ∀ t ∈ rs, ∀ r ∈ rs2, Apt t r) (ho : Own w' B T_Sint s' (rs.map Sl.v ++ rs2.map Sl.v)) (hg : w.grownBy w' s.blk) :
    OwnRows w' B s' (rs ++ rs2) (LL ++ MM) := by
  have kept : ∀ t M, OwnI w B t M → OwnI w' B t M := fun t M ht => ht.kept hg (fun g hg' e => (h.out.apt ht (by decide)) g e hg')
  have hl := h.len
  refine ⟨by simpa using ho, by simp [h.len, h2.len], fun i t M e1 e2 => ?_, fun i j t u hij e1 e2 => ?_⟩
  · by_cases hi : i < rs.length
    · rw [List.getElem?_append_left hi] at e1
      rw [List.getElem?_append_left (by omega)] at e2
      exact kept _ _ (h.at_ i t M e1 e2)
    · rw [List.getElem?_append_right (by omega)] at e1
      rw [List.getElem?_append_right (by omega), ← hl] at e2
      exact kept _ _ (h2.at_ (i - rs.length) t M e1 e2)
  · by_cases hi : i < rs.length
    · rw [List.getElem?_append_left hi] at e1
      by_cases hj : j < rs.length
      · rw [List.getElem?_append_left hj] at e2
        exact h.apt i j t u hij e1 e2
      · rw [List.getElem?_append_right (by omega)] at e2
        exact hap t (List.mem_of_getElem? e1) u (List.mem_of_getElem? e2)
    · rw [List.getElem?_append_right (by omega)] at e1
      by_cases hj : j < rs.length
      · rw [List.getElem?_append_left hj] at e2
        exact (hap u (List.mem_of_getElem? e2) t (List.mem_of_getElem? e1)).symm
      · rw [List.getElem?_append_right (by omega)] at e2
        exact h2.apt (i - rs.length) (j - rs.length) t u (by omega) e1 e2
/-- 'append(rows, more...)', the rows behind made later. -/
theorem append_many {w0 w : World} {B : Nat} {s s2 : Sl} {LL MM : List (List Int)} (h0 : OwnSS w0 B s LL) (hb : Below w0.heap.size w0 w) (hB : B ≤ w0.heap.size) (h2 : OwnSS w w0.heap.size s2 MM) (hn : LL.length + MM.length < 2^39) {K : Sl → World → Prop}
    (hk : ∀ s' w', OwnSS w' B s' (LL ++ MM) → w.grownBy w' s.blk → Next w s s' → K s' w') :
    sem1 .sl PP (Builtin.append_ #[T_SSint, T_SSint] T_SSint #[s.v, s2.v]) w K := by
  obtain ⟨rs, h0⟩ := h0
  obtain ⟨rs2, h2⟩ := h2
  have h1 := h0.grow hb
  have hl1 := h1.len
  have hl2 := h2.len
  refine append_row oneSint h1.out (Nat.le_trans hB hb.size) h2.out.row (fun v hv => by obtain ⟨r, _, rfl⟩ := List.mem_map.1 hv; exact One.sl r) (by rw [List.length_map, List.length_map]; omega) ?_
  intro s' w' ho hg hn' _
  exact hk s' w' ⟨_, h1.pushMany (h2.mono hB) (fun t ht r hr => Apt.of_lt (fun g hg => (h0.lt ht hg).2) (fun g hg => (h2.lt hr hg).1)) ho hg⟩ hg hn'
/-- 'append(rows, row)'. -/
theorem append_sl {w : World} {B : Nat} {s : Sl} {rs : List Sl} {LL : List (List Int)} {r : Sl} {L : List Int} (h : OwnRows w B s rs LL) (hB : B ≤ w.heap.size) (hr : OwnI w B r L) (hap : ∀ t ∈ rs, Apt t r) (hn : LL.length < 2^39) {K : Sl → World → Prop}
    (hk : ∀ s' w', OwnRows w' B s' (rs ++ [r]) (LL ++ [L]) → w.grownBy w' s.blk → Next w s s' → K s' w') :
    sem1 .sl PP (Instr.buildSlice T_SSint 1 #[(0, r.v)]) w fun t w1 => sem1 .sl PP (Builtin.append_ #[T_SSint, T_SSint] T_SSint #[s.v, t.v]) w1 K :=
  append_one oneSint h.out hB (One.sl r) (by rw [List.length_map, h.len]; exact hn) fun s' w' h1 h2 h3 => hk s' w' (h.push hr hap h1 h2) h2 h3
/-- 'append(rows, row)', the rows known only to exist, the row made later. -/
theorem append_new {w0 w : World} {B : Nat} {s : Sl} {LL : List (List Int)} {r : Sl} {L : List Int} (h0 : OwnSS w0 B s LL) (hb : Below w0.heap.size w0 w) (hB : B ≤ w0.heap.size) (hr : OwnI w w0.heap.size r L) (hn : LL.length < 2^39) {K : Sl → World → Prop}
    (hk : ∀ s' w', OwnSS w' B s' (LL ++ [L]) → w.grownBy w' s.blk → Next w s s' → K s' w') :
    sem1 .sl PP (Instr.buildSlice T_SSint 1 #[(0, r.v)]) w fun t w1 => sem1 .sl PP (Builtin.append_ #[T_SSint, T_SSint] T_SSint #[s.v, t.v]) w1 K := by
  obtain ⟨rs, h0⟩ := h0
  exact append_sl (h0.grow hb) (Nat.le_trans hB hb.size) (hr.mono hB) (fun t ht => Apt.of_lt (fun g hg => (h0.lt ht hg).2) (fun g hg => (hr.lt g hg).1)) hn fun s' w' h1 h2 h3 => hk s' w' ⟨_, h1⟩ h2 h3
theorem OwnSS.lt {w B s LL} (h : OwnSS w B s LL) : ∀ g, s.blk = some g → B ≤ g ∧ g < w.heap.size := by obtain ⟨rs, h⟩ := h; exact h.out.lt
/-- Another row in a place. -/
theorem OwnRows.set {w w' B s rs LL} (h : OwnRows w B s rs LL) {i : Nat} {r : Sl} {L : List Int} (hr : OwnI w B r L) (hap : ∀ j t, j ≠ i → rs[j]? = some t → Apt t r) (ho : Own w' B T_Sint s ((rs.map Sl.v).set i r.v)) (hg : w.grownBy w' s.blk) :
    OwnRows w' B s (rs.set i r) (LL.set i L) := by
  have kept : ∀ t M, OwnI w B t M → OwnI w' B t M := fun t M ht => ht.kept hg (fun g hg' e => (h.out.apt ht (by decide)) g e hg')
  refine ⟨by simpa [List.map_set] using ho, by simp [h.len], fun j t M e1 e2 => ?_, fun j k t u hjk e1 e2 => ?_⟩
  · rw [List.getElem?_set] at e1 e2
    by_cases hj : i = j
    · subst hj
      rw [if_pos rfl] at e1 e2
      split at e1
      · split at e2
        · simp only [Option.some.injEq] at e1 e2; subst e1 e2; exact kept _ _ hr
        · cases e2
      · cases e1
    · rw [if_neg hj] at e1 e2; exact kept _ _ (h.at_ j t M e1 e2)
  · rw [List.getElem?_set] at e1 e2
    by_cases hj : i = j
    · subst hj
      rw [if_pos rfl] at e1
      rw [if_neg hjk] at e2
      split at e1
      · simp only [Option.some.injEq] at e1; subst e1; exact (hap k u (Ne.symm hjk) e2).symm
      · cases e1
    · rw [if_neg hj] at e1
      by_cases hk : i = k
      · subst hk
        rw [if_pos rfl] at e2
        split at e2
        · simp only [Option.some.injEq] at e2; subst e2; exact hap j t (Ne.symm hj) e1
        · cases e2
      · rw [if_neg hk] at e2; exact h.apt j k t u hjk e1 e2
/-- One row changed where it stands (its block alone was written). -/
theorem OwnRows.inside {w w' B s rs LL} (h : OwnRows w B s rs LL) {i : Nat} {r : Sl} {L : List Int} (hi : rs[i]? = some r) (hr : OwnI w' B r L) (hg : w.grownBy w' r.blk) : OwnRows w' B s rs (LL.set i L) := by
  have hlt : i < LL.length := by have := (List.getElem?_eq_some_iff.1 hi).1; have := h.len; omega
  have hor := h.at_ i r _ hi (List.getElem?_eq_getElem hlt)
  refine ⟨h.out.kept hg fun g hg' e => (h.out.apt hor (by decide)) g hg' e, by simp [h.len], fun j t M e1 e2 => ?_, h.apt⟩
  rw [List.getElem?_set] at e2
  by_cases hj : i = j
  · subst hj
    rw [if_pos rfl, if_pos hlt] at e2
    rw [hi] at e1
    simp only [Option.some.injEq] at e1 e2; subst e1 e2; exact hr
  · rw [if_neg hj] at e2
    exact (h.at_ j t M e1 e2).kept hg fun g hg' e => h.apt i j r t hj hi e1 g e hg'
theorem OwnRows.get {w B s rs LL} (h : OwnRows w B s rs LL) {i : Nat} (hi : i < LL.length) : ∃ r, rs[i]? = some r ∧ OwnI w B r (LL.getD i []) := by
  have hlt : i < rs.length := by have := h.len; omega
  refine ⟨rs[i], List.getElem?_eq_getElem hlt, h.at_ i _ _ (List.getElem?_eq_getElem hlt) ?_⟩
  simp [List.getD_eq_getElem?_getD, List.getElem?_eq_getElem hi]
/-- A row that has moved or grown, stored in its place. -/
theorem OwnRows.setNew {w w5 w6 B s rs LL} (h : OwnRows w B s rs LL) {i : Nat} {t t' : Sl} {L' : List Int} (hi : rs[i]? = some t) (hg : w.grownBy w5 t.blk) (hr : OwnI w5 B t' L') (hn : Next w t t')
    (ho : Own w6 B T_Sint s ((rs.map Sl.v).set i t'.v)) (hg6 : w5.grownBy w6 s.blk) (hsame : s.blk = s.blk) : OwnRows w6 B s (rs.set i t') (LL.set i L') := by
  have hlt : i < LL.length := by have := (List.getElem?_eq_some_iff.1 hi).1; have := h.len; omega
  have hot := h.at_ i t _ hi (List.getElem?_eq_getElem hlt)
  have aptT : ∀ u M, OwnI w5 B u M → ∀ g, u.blk = some g → s.blk ≠ some g := fun u M hu g e1 e2 => by
    have hs5 : Own w5 B T_Sint s (rs.map Sl.v) := h.out.kept hg fun g hg' e => (h.out.apt hot (by decide)) g hg' e
    exact (hs5.apt hu (by decide)) g e2 e1
  have kept6 : ∀ u M, OwnI w5 B u M → OwnI w6 B u M := fun u M hu => hu.kept hg6 (fun g hg' e => aptT u M hu g hg' e)
  refine ⟨by simpa [List.map_set] using ho, by simp [h.len], fun j u M e1 e2 => ?_, fun j k u v hjk e1 e2 => ?_⟩
  · rw [List.getElem?_set] at e1 e2
    by_cases hj : i = j
    · subst hj
      rw [if_pos rfl] at e1 e2
      split at e1
      · split at e2
        · simp only [Option.some.injEq] at e1 e2; subst e1 e2; exact kept6 _ _ hr
        · omega
      · cases e1
    · rw [if_neg hj] at e1 e2
      exact kept6 _ _ ((h.at_ j u M e1 e2).kept hg fun g hg' e => h.apt i j t u hj hi e1 g e hg')
  · have key : ∀ j u, i ≠ j → rs[j]? = some u → Apt t' u := fun j u hij hu => by
      have hju : j < LL.length := by have := (List.getElem?_eq_some_iff.1 hu).1; have := h.len; omega
      have hou := h.at_ j u _ hu (List.getElem?_eq_getElem hju)
      exact (h.apt i j t u hij hi hu).next hn (fun g hg' => (hou.lt g hg').2)
    rw [List.getElem?_set] at e1 e2
    by_cases hj : i = j
    · subst hj
      rw [if_pos rfl] at e1
      rw [if_neg hjk] at e2
      split at e1
      · simp only [Option.some.injEq] at e1; subst e1; exact key k v hjk e2
      · cases e1
    · rw [if_neg hj] at e1
      by_cases hk : i = k
      · subst hk
        rw [if_pos rfl] at e2
        split at e2
        · simp only [Option.some.injEq] at e2; subst e2; exact (key j u hj e1).symm
        · cases e2
      · rw [if_neg hk] at e2; exact h.apt j k u v hjk e1 e2
/-- 'rows[i] = append(rows[i], x)'. -/
theorem OwnRows.appendAt {w B s rs LL} (h : OwnRows w B s rs LL) {i : Int} (h0 : 0 ≤ i) (hi : i < LL.length) (hB : B ≤ w.heap.size) (hlen : (LL.getD i.toNat []).length < 2^39) {x : Int} {K : World → Prop}
    (hk : ∀ w' rs', OwnRows w' B s rs' (LL.set i.toNat (LL.getD i.toNat [] ++ [x])) → Below B w w' → K w') :
    idxK 1 s i fun a => load1 .sl a w fun (t : Sl) => sem1 .sl PP (Instr.buildSlice T_Sint 1 #[(0, vI x)]) w fun (ρ : Sl) w1 => sem1 .sl PP (Builtin.append_ #[T_Sint, T_Sint] T_Sint #[t.v, ρ.v]) w1 fun (t' : Sl) w2 =>
      idxK 1 s i fun a2 => storeC a2 t'.v w2 K := by
  obtain ⟨t, h1, h2⟩ := h.get (i := i.toNat) (by omega)
  refine Row.get (sh := .sl) (r := t) h.out.row h0 (by rw [List.getElem?_map, h1]; rfl) ?_
  refine append_int h2 hB hlen ?_
  intro t' w5 ht' hg5 hn5
  have hs5 : Own w5 B T_Sint s (rs.map Sl.v) := h.out.kept hg5 fun g hg' e => (h.out.apt h2 (by decide)) g hg' e
  refine Own.put hs5 h0 (by rw [List.length_map, h.len]; exact hi) (v := t'.v) ?_
  intro w6 ho6 hg6 _
  refine hk w6 _ (h.setNew h1 hg5 ht' hn5 ho6 hg6 rfl) ?_
  have hb5 : Below B w w5 := (Below.refl _ _).grown hg5 hB (fun g hg => (h2.lt g hg).1)
  exact hb5.grown hg6 (Nat.le_trans hB hg5.size) (fun g hg => (hs5.lt g hg).1)
/-- Loading one of the rows. -/
theorem OwnRows.load {w B s rs LL} (h : OwnRows w B s rs LL) {i : Int} (h0 : 0 ≤ i) (hi : i < LL.length) {K : Sl → Prop} (hk : ∀ r, rs[i.toNat]? = some r → OwnI w B r (LL.getD i.toNat []) → K r) : idxK 1 s i fun a => load1 .sl a w K := by
  obtain ⟨r, h1, h2⟩ := h.get (i := i.toNat) (by omega)
  exact Row.get (sh := .sl) (r := r) h.out.row h0 (by rw [List.getElem?_map, h1]; rfl) (hk r h1 h2)
end Go.Proofs.Ytmhgjfahgemblaa
