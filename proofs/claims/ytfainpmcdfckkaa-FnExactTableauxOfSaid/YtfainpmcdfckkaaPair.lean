/- Two rows of two tables that grow by one number each, in whatever order the steps are taken. -/
import Derived.Test.YtfainpmcdfckkaaFoot
namespace Go.Proofs.Ytfainpmcdfckkaa
open Go Go.RowKit
set_option maxRecDepth 100000

/-- A literal of one number, made by this step. -/
def Lit (w0 w : World) (ρ : Sl) (x : Int) : Prop := ∃ g, ρ = ⟨some ⟨g, 0, none⟩, 1, 1⟩ ∧ w0.heap.size ≤ g ∧ w.heap[g]? = some (.cells #[vI x] T_int (0, 0))
theorem Lit.row {w0 w : World} {ρ : Sl} {x : Int} (h : Lit w0 w ρ x) : Row w ρ [vI x] := by
  obtain ⟨g, rfl, _, hg⟩ := h
  refine ⟨rfl, Nat.le_refl _, fun i u hu => ⟨_, rfl, ?_⟩⟩
  cases i with
  | zero => simp at hu; subst hu; rw [add_zero', cell_of_row _ _ _ _ _ _ hg]; rfl
  | succ i => simp at hu
theorem Lit.kept {w0 w w' : World} {ρ : Sl} {x : Int} {r : Option Nat} (h : Lit w0 w ρ x) (hg : w.grownBy w' r) (hr : ∀ g, r = some g → g < w0.heap.size) : Lit w0 w' ρ x := by
  obtain ⟨g, rfl, h1, h2⟩ := h
  refine ⟨g, rfl, h1, ?_⟩
  rw [hg.block g (Array.getElem?_eq_some_iff.1 h2).1 (fun e => by have := hr g e.symm; omega)]
  exact h2
structure JS (w0 : World) (B : Nat) (ta tb : Sl) (A C : List Int) (x y : Int) (w : World) (pa da pb db : Option Sl) : Prop where
  keeps : Keeps (fun g => ta.blk = some g ∨ tb.blk = some g) w0 w
  a0 : da = none → OwnI w B ta A
  b0 : db = none → OwnI w B tb C
  a1 : ∀ t, da = some t → OwnI w B t (A ++ [x]) ∧ ∀ g, t.blk = some g → ta.blk = some g ∨ w0.heap.size ≤ g
  b1 : ∀ t, db = some t → OwnI w B t (C ++ [y]) ∧ ∀ g, t.blk = some g → tb.blk = some g ∨ w0.heap.size ≤ g
  pa : ∀ ρ, pa = some ρ → Lit w0 w ρ x
  pb : ∀ ρ, pb = some ρ → Lit w0 w ρ y
  ap : ∀ t u, da = some t → db = some u → Apt t u
  /-- As it stood at the beginning. -/
  hB : B ≤ w0.heap.size
  apt : Apt ta tb
  la : ∀ g, ta.blk = some g → g < w0.heap.size
  lb : ∀ g, tb.blk = some g → g < w0.heap.size
  na : A.length < 2^38
  nb : C.length < 2^38
theorem JS.swap {w0 B ta tb A C x y w pa da pb db} (h : JS w0 B ta tb A C x y w pa da pb db) : JS w0 B tb ta C A y x w pb db pa da :=
  ⟨h.keeps.mono (fun _ e => e.symm), h.b0, h.a0, h.b1, h.a1, h.pb, h.pa, fun t u h1 h2 => (h.ap u t h2 h1).symm, h.hB, h.apt.symm, h.lb, h.la, h.nb, h.na⟩
theorem JS.start {w0 B ta tb A C x y} (hB : B ≤ w0.heap.size) (ha : OwnI w0 B ta A) (hb : OwnI w0 B tb C) (hap : Apt ta tb) (na : A.length < 2^38) (nb : C.length < 2^38) : JS w0 B ta tb A C x y w0 none none none none :=
  ⟨Keeps.refl _ _, fun _ => ha, fun _ => hb, fun t e => by simp at e, fun t e => by simp at e, fun t e => by simp at e, fun t e => by simp at e, fun t u e => by simp at e, hB, hap, fun g hg => (ha.lt g hg).2, fun g hg => (hb.lt g hg).2, na, nb⟩
theorem JS.cell {w0 B ta tb A C x y w pa da pb db} (h : JS w0 B ta tb A C x y w pa da pb db) {c : Addr} {v : Value} (hc : w0.cell? c = some v) (h1 : ta.blk ≠ some c.block) (h2 : tb.blk ≠ some c.block) : w.cell? c = some v := by
  have hlt := World.block_lt_of_cell? w0 _ hc
  have := h.keeps.block c.block hlt (fun e => e.elim h1 h2)
  unfold World.cell? at hc ⊢
  rw [this]; exact hc
theorem JS.litA {w0 B ta tb A C x y w da pb db} (h : JS w0 B ta tb A C x y w none da pb db) {K : Sl → World → Prop} (hk : ∀ ρ w', JS w0 B ta tb A C x y w' (some ρ) da pb db → K ρ w') : sem1 .sl PP (Instr.buildSlice T_Sint 1 #[(0, vI x)]) w K := by
  refine ⟨⟨some ⟨w.heap.size, 0, none⟩, 1, 1⟩, _, run_lit1 oneInt (One.int x) w, hk _ _ ?_⟩
  have hg : w.grownBy (w.alloc (.cells #[vI x] T_int)) none := World.grownBy_alloc w _ none
  have kp : ∀ t M, OwnI w B t M → OwnI (w.alloc (.cells #[vI x] T_int)) B t M := fun t M ht => ht.kept hg fun _ _ e => (by cases e)
  refine ⟨h.keeps.trans ((keeps_grown hg).mono fun k e => (by cases e)), fun e => kp _ _ (h.a0 e), fun e => kp _ _ (h.b0 e), fun t e => ⟨kp _ _ (h.a1 t e).1, (h.a1 t e).2⟩, fun t e => ⟨kp _ _ (h.b1 t e).1, (h.b1 t e).2⟩, ?_, fun ρ e => (h.pb ρ e).kept hg fun g e => (by cases e), h.ap, h.hB, h.apt, h.la, h.lb, h.na, h.nb⟩
  intro ρ e
  simp only [Option.some.injEq] at e
  subst e
  exact ⟨_, rfl, h.keeps.size, heap_alloc_new w _⟩
theorem JS.litB {w0 B ta tb A C x y w pa da db} (h : JS w0 B ta tb A C x y w pa da none db) {K : Sl → World → Prop} (hk : ∀ ρ w', JS w0 B ta tb A C x y w' pa da (some ρ) db → K ρ w') : sem1 .sl PP (Instr.buildSlice T_Sint 1 #[(0, vI y)]) w K :=
  h.swap.litA fun ρ w' hj => hk ρ w' hj.swap
theorem JS.appA {w0 B ta tb A C x y w ρ pb db} (h : JS w0 B ta tb A C x y w (some ρ) none pb db) {K : Sl → World → Prop} (hk : ∀ t w', JS w0 B ta tb A C x y w' (some ρ) (some t) pb db → K t w') : sem1 .sl PP (Builtin.append_ #[T_Sint, T_Sint] T_Sint #[ta.v, ρ.v]) w K := by
  have ha := h.a0 rfl
  have hsz := h.keeps.size
  refine append_row oneInt ha (Nat.le_trans h.hB hsz) (h.pa ρ rfl).row (fun v hv => by simp at hv; subst hv; exact One.int x) (by have := h.na; simp; omega) ?_
  intro s' w' ho hg hn _
  have kpl : ∀ t M, OwnI w B t M → (∀ g, t.blk = some g → tb.blk = some g ∨ w0.heap.size ≤ g) → OwnI w' B t M := fun t M ht hh => ht.kept hg fun g h1 h2 => by
    rcases hh g h1 with h3 | h3
    · exact h.apt g h2 h3
    · have := h.la g h2; omega
  refine hk s' w' ⟨h.keeps.trans ((keeps_grown hg).mono fun k e => .inl e), fun e => (by cases e), fun e => kpl _ _ (h.b0 e) fun g hg => .inl hg, fun t e => ?_, fun t e => ⟨kpl _ _ (h.b1 t e).1 (h.b1 t e).2, (h.b1 t e).2⟩, fun ρ e => (h.pa ρ e).kept hg h.la, fun ρ e => (h.pb ρ e).kept hg h.la, fun t u e1 e2 => ?_, h.hB, h.apt, h.la, h.lb, h.na, h.nb⟩
  · simp only [Option.some.injEq] at e
    subst e
    refine ⟨by simpa [OwnI] using ho, fun g hg' => (hn g hg').imp id fun h1 => by omega⟩
  · simp only [Option.some.injEq] at e1
    subst e1
    intro g h1 h2
    have hu := (h.b1 u e2)
    rcases hn g h1 with h3 | h3
    · rcases hu.2 g h2 with h4 | h4
      · exact h.apt g h3 h4
      · have := h.la g h3; omega
    · have := (hu.1.lt g h2).2; omega
theorem JS.appB {w0 B ta tb A C x y w ρ pa da} (h : JS w0 B ta tb A C x y w pa da (some ρ) none) {K : Sl → World → Prop} (hk : ∀ t w', JS w0 B ta tb A C x y w' pa da (some ρ) (some t) → K t w') : sem1 .sl PP (Builtin.append_ #[T_Sint, T_Sint] T_Sint #[tb.v, ρ.v]) w K :=
  h.swap.appA fun t w' hj => hk t w' hj.swap

/-- A row put in a place, whatever became of the row that stood there. -/
theorem OwnRows.set2 {w w' : World} {B : Nat} {s : Sl} {rs : List Sl} {LL : List (List Int)} {i : Nat} {r : Sl} {L : List Int} (hout : Own w B T_Sint s (rs.map Sl.v)) (hl : rs.length = LL.length) (hat : ∀ (j : Nat) t M, j ≠ i → rs[j]? = some t → LL[j]? = some M → OwnI w B t M)
    (hapt : ∀ (j k : Nat) t u, j ≠ k → rs[j]? = some t → rs[k]? = some u → Apt t u) (hr : OwnI w B r L) (hap : ∀ (j : Nat) t, j ≠ i → rs[j]? = some t → Apt t r) (ho : Own w' B T_Sint s ((rs.map Sl.v).set i r.v)) (hg : w.grownBy w' s.blk) :
    OwnRows w' B s (rs.set i r) (LL.set i L) := by
  have kept : ∀ t M, OwnI w B t M → OwnI w' B t M := fun t M ht => ht.kept hg (fun g hg' e => (hout.apt ht (by decide)) g e hg')
  refine ⟨by simpa [List.map_set] using ho, by simp [hl], fun j t M e1 e2 => ?_, fun j k t u hjk e1 e2 => ?_⟩
  · rw [List.getElem?_set] at e1 e2
    by_cases hj : i = j
    · subst hj
      rw [if_pos rfl] at e1 e2
      split at e1
      · split at e2
        · simp only [Option.some.injEq] at e1 e2; subst e1 e2; exact kept _ _ hr
        · cases e2
      · cases e1
    · rw [if_neg hj] at e1 e2; exact kept _ _ (hat j t M (fun e => hj e.symm) e1 e2)
  · rw [List.getElem?_set] at e1 e2
    by_cases hj : i = j
    · subst hj
      rw [if_pos rfl] at e1
      rw [if_neg hjk] at e2
      split at e1
      · simp only [Option.some.injEq] at e1; subst e1; exact (hap k u (Ne.symm hjk) e2).symm
      · cases e1
    · rw [if_neg hj] at e1
      by_cases hk : i = k
      · subst hk
        rw [if_pos rfl] at e2
        split at e2
        · simp only [Option.some.injEq] at e2; subst e2; exact hap j t (Ne.symm hj) e1
        · cases e2
      · rw [if_neg hk] at e2; exact hapt j k t u hjk e1 e2
/-- A table after the steps, with the new row stored. -/
theorem OwnRows.storeK {w0 w B s rs LL} {S : Nat → Prop} (h : OwnRows w0 B s rs LL) {i : Int} (h0 : 0 ≤ i) (hi : i < LL.length) {t t' : Sl} {L' : List Int} (ht : rs[i.toNat]? = some t) (hk : Keeps S w0 w) (hS : ∀ g, foot s rs g → S g → t.blk = some g)
    (hr : OwnI w B t' L') (hn : ∀ g, t'.blk = some g → t.blk = some g ∨ w0.heap.size ≤ g) {K : World → Prop}
    (hK : ∀ w', OwnRows w' B s (rs.set i.toNat t') (LL.set i.toNat L') → w.grownBy w' s.blk → Stp w0 w' (fun g => S g ∨ foot s rs g) (foot s (rs.set i.toNat t')) → K w') : idxK 1 s i fun a => storeC a t'.v w K := by
  have hlt : i.toNat < LL.length := by omega
  have hot := h.at_ i.toNat t _ ht (List.getElem?_eq_getElem hlt)
  have hout : Own w B T_Sint s (rs.map Sl.v) := h.out.keeps hk fun g hg hs => (h.out.apt hot (by decide)) g hg (hS g (.inl hg) hs)
  have hm : t ∈ rs := List.mem_of_getElem? ht
  refine Own.put hout h0 (by rw [List.length_map, h.len]; exact hi) (v := t'.v) ?_
  intro w6 ho6 hg6 _
  refine hK w6 (OwnRows.set2 hout h.len (fun j u M hj e1 e2 => (h.at_ j u M e1 e2).keeps hk fun g hg hs => h.apt j i.toNat u t hj e1 ht g hg (hS g (.inr ⟨u, List.mem_of_getElem? e1, hg⟩) hs)) (fun j k t u hjk e1 e2 => h.apt j k t u hjk e1 e2) hr ?_ ho6 hg6) hg6 ⟨?_, fun g hg => ?_⟩
  · intro j u hj hu g h1 h2
    rcases hn g h2 with h3 | h3
    · exact h.apt j i.toNat u t hj hu ht g h1 h3
    · have := (h.lt (List.mem_of_getElem? hu) h1).2; omega
  · exact (hk.mono fun k e => .inl e).trans ((keeps_grown hg6).mono fun k e => .inr (.inl e))
  · rcases hg with hg | ⟨r, hr', hg⟩
    · exact .inl (.inr (.inl hg))
    · rcases List.mem_or_eq_of_mem_set hr' with hr' | rfl
      · exact .inl (.inr (.inr ⟨r, hr', hg⟩))
      · rcases hn g hg with h3 | h3
        · exact .inl (.inr (.inr ⟨t, hm, h3⟩))
        · exact .inr h3
theorem OwnRows.placeT {w B s rs LL} (h : OwnRows w B s rs LL) {i : Int} (h0 : 0 ≤ i) (hi : i < LL.length) {t : Sl} (ht : rs[i.toNat]? = some t) {K : Addr → Prop} (hk : ∀ a, s.blk = some a.block → w.cell? a = some t.v → K a) : idxK 1 s i K := by
  have hn := h.n
  have hlt : i.toNat < LL.length := by omega
  rcases h.out.at_ with hc | ⟨g, cur, ha, hb, hg, hs, htk⟩
  · have := h.out.nc; omega
  · have hc0 : s.c ≠ 0 := by have := h.out.nc; omega
    refine ⟨⟨g, 0, none⟩, ha, h0, by omega, ?_⟩
    rw [Nat.mul_one]
    refine hk _ ?_ ?_
    · rw [add_block]; simp [Sl.blk, hc0, ha]
    · obtain ⟨a, ha', hcell⟩ := h.out.row.cell i.toNat t.v (by rw [List.getElem?_map, ht]; rfl)
      rw [ha] at ha'; cases ha'; exact hcell
/-- A variable of the call's own: a slice of one number. -/
@[reducible] def vsl (v : Addr) : Sl := ⟨some v, 1, 1⟩
theorem vsl_cell {w B v x} (h : OwnI w B (vsl v) [x]) : w.cell? v = some (vI x) := by
  obtain ⟨a, ha, hc⟩ := h.row.cell 0 (vI x) rfl
  simp only [Option.some.injEq] at ha
  subst ha
  rwa [add_zero'] at hc
theorem vsl_blk (v : Addr) : (vsl v).blk = some v.block := by simp [Sl.blk]
theorem vsl_new {w : World} {B : Nat} (hB : B ≤ w.heap.size) {x : Int} {u : Int} {K : Addr → World → Prop} (hk : ∀ v w', OwnI w' B (vsl v) [x] → w.heap.size ≤ v.block → Below w.heap.size w w' → K v w') : newK T_int #[vI u] w fun v w1 => storeC v (vI x) w1 (K v) := by
  have hnew := heap_alloc_new w (.cells #[vI u] T_int)
  have hc : (w.alloc (.cells #[vI u] T_int)).cell? ⟨w.heap.size, 0, none⟩ = some (vI u) := by
    have := cell_of_row (w.alloc (.cells #[vI u] T_int)) w.heap.size 0 #[vI u] T_int (0, 0) hnew
    rw [this]; rfl
  refine ⟨⟨vI u, hc⟩, by simp only [World.frozen?, hnew]; rfl, hk _ _ ?_ (Nat.le_refl _) ?_⟩
  · have h1 : ((w.alloc (.cells #[vI u] T_int)).setCell ⟨w.heap.size, 0, none⟩ (vI x)).heap[w.heap.size]? = some (.cells (#[vI u].setIfInBounds 0 (vI x)) T_int (0, 0)) := by
      simp only [World.setCell, Array.getElem?_modify, hnew]; rfl
    refine ⟨rfl, Nat.le_refl _, by simp only [maxLen]; omega, .inr ⟨_, _, rfl, hB, h1, rfl, rfl⟩⟩
  · have hb := below_of_grow (World.grownBy_alloc w (.cells #[vI u] T_int) none)
    refine ⟨hb.os, hb.tape, hb.output, by simp [World.setCell], fun k hk => ?_⟩
    rw [Below.heap_setCell _ _ _ _ (by simp; omega)]
    exact hb.block k hk
theorem vsl_store {w B v x y} (h : OwnI w B (vsl v) [x]) {K : World → Prop} (hk : ∀ w', OwnI w' B (vsl v) [y] → w.grownBy w' (some v.block) → K w') : storeC v (vI y) w K := by
  have := Own.put (i := 0) (v := vI y) h (by omega) (by simp) (K := K) fun w' h1 h2 _ => hk w' (by simpa [OwnI] using h1) (by rw [vsl_blk] at h2; exact h2)
  obtain ⟨a, ha, _, _, hs⟩ := this
  simp only [Option.some.injEq] at ha
  subst ha
  simpa [add_zero'] using hs
end Go.Proofs.Ytfainpmcdfckkaa
