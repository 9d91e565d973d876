/- Two slices that grow by one value each, in whatever order the steps are taken. -/
import Derived.Test.YtmhgjfahgemblaaFoot
namespace Go.Proofs.Ytmhgjfahgemblaa
open Go Go.RowKit
set_option maxRecDepth 100000

/-- A literal of one number, made by this step. -/
def LitG (w0 w : World) (e : TypeId) (ρ : Sl) (v : Value) : Prop := ∃ g, ρ = ⟨some ⟨g, 0, none⟩, 1, 1⟩ ∧ w0.heap.size ≤ g ∧ w.heap[g]? = some (.cells #[v] e (0, 0))
theorem LitG.row {w0 w : World} {e : TypeId} {ρ : Sl} {v : Value} (h : LitG w0 w e ρ v) : Row w ρ [v] := by
  obtain ⟨g, rfl, _, hg⟩ := h
  refine ⟨rfl, Nat.le_refl _, fun i u hu => ⟨_, rfl, ?_⟩⟩
  cases i with
  | zero => simp at hu; subst hu; rw [add_zero', cell_of_row _ _ _ _ _ _ hg]; rfl
  | succ i => simp at hu
theorem LitG.kept {w0 w w' : World} {e : TypeId} {ρ : Sl} {v : Value} {r : Option Nat} (h : LitG w0 w e ρ v) (hg : w.grownBy w' r) (hr : ∀ g, r = some g → g < w0.heap.size) : LitG w0 w' e ρ v := by
  obtain ⟨g, rfl, h1, h2⟩ := h
  refine ⟨g, rfl, h1, ?_⟩
  rw [hg.block g (Array.getElem?_eq_some_iff.1 h2).1 (fun e => by have := hr g e.symm; omega)]
  exact h2
structure JG (w0 : World) (B : Nat) (eA eB : TypeId) (ta tb : Sl) (A C : List Value) (x y : Value) (w : World) (pa da pb db : Option Sl) : Prop where
  keeps : Keeps (fun g => ta.blk = some g ∨ tb.blk = some g) w0 w
  a0 : da = none → Own w B eA ta A
  b0 : db = none → Own w B eB tb C
  a1 : ∀ t, da = some t → Own w B eA t (A ++ [x]) ∧ ∀ g, t.blk = some g → ta.blk = some g ∨ w0.heap.size ≤ g
  b1 : ∀ t, db = some t → Own w B eB t (C ++ [y]) ∧ ∀ g, t.blk = some g → tb.blk = some g ∨ w0.heap.size ≤ g
  pa : ∀ ρ, pa = some ρ → LitG w0 w eA ρ x
  pb : ∀ ρ, pb = some ρ → LitG w0 w eB ρ y
  ap : ∀ t u, da = some t → db = some u → Apt t u
  /-- As it stood at the beginning. -/
  hB : B ≤ w0.heap.size
  apt : Apt ta tb
  la : ∀ g, ta.blk = some g → g < w0.heap.size
  lb : ∀ g, tb.blk = some g → g < w0.heap.size
  na : A.length < 2^38
  nb : C.length < 2^38
theorem JG.swap {w0 B eA eB ta tb A C x y w pa da pb db} (h : JG w0 B eA eB ta tb A C x y w pa da pb db) : JG w0 B eB eA tb ta C A y x w pb db pa da :=
  ⟨h.keeps.mono (fun _ e => e.symm), h.b0, h.a0, h.b1, h.a1, h.pb, h.pa, fun t u h1 h2 => (h.ap u t h2 h1).symm, h.hB, h.apt.symm, h.lb, h.la, h.nb, h.na⟩
theorem JG.start {w0 B eA eB ta tb A C x y} (hB : B ≤ w0.heap.size) (ha : Own w0 B eA ta A) (hb : Own w0 B eB tb C) (hap : Apt ta tb) (na : A.length < 2^38) (nb : C.length < 2^38) : JG w0 B eA eB ta tb A C x y w0 none none none none :=
  ⟨Keeps.refl _ _, fun _ => ha, fun _ => hb, fun t e => by simp at e, fun t e => by simp at e, fun t e => by simp at e, fun t e => by simp at e, fun t u e => by simp at e, hB, hap, fun g hg => (ha.lt g hg).2, fun g hg => (hb.lt g hg).2, na, nb⟩
theorem JG.cell {w0 B eA eB ta tb A C x y w pa da pb db} (h : JG w0 B eA eB ta tb A C x y w pa da pb db) {c : Addr} {v : Value} (hc : w0.cell? c = some v) (h1 : ta.blk ≠ some c.block) (h2 : tb.blk ≠ some c.block) : w.cell? c = some v := by
  have hlt := World.block_lt_of_cell? w0 _ hc
  have := h.keeps.block c.block hlt (fun e => e.elim h1 h2)
  unfold World.cell? at hc ⊢
  rw [this]; exact hc
theorem JG.litA {tA : TypeId} {zA : Value} {w0 B eA eB ta tb A C x y w da pb db} (hT : OneT tA eA zA) (hx : One x) (h : JG w0 B eA eB ta tb A C x y w none da pb db) {K : Sl → World → Prop} (hk : ∀ ρ w', JG w0 B eA eB ta tb A C x y w' (some ρ) da pb db → K ρ w') : sem1 .sl PP (Instr.buildSlice tA 1 #[(0, x)]) w K := by
  refine ⟨⟨some ⟨w.heap.size, 0, none⟩, 1, 1⟩, _, run_lit1 hT hx w, hk _ _ ?_⟩
  have hg : w.grownBy (w.alloc (.cells #[x] eA)) none := World.grownBy_alloc w _ none
  have kp : ∀ e t M, Own w B e t M → Own (w.alloc (.cells #[x] eA)) B e t M := fun e t M ht => ht.kept hg fun _ _ e => (by cases e)
  refine ⟨h.keeps.trans ((keeps_grown hg).mono fun k e => (by cases e)), fun e => kp _ _ _ (h.a0 e), fun e => kp _ _ _ (h.b0 e), fun t e => ⟨kp _ _ _ (h.a1 t e).1, (h.a1 t e).2⟩, fun t e => ⟨kp _ _ _ (h.b1 t e).1, (h.b1 t e).2⟩, ?_, fun ρ e => (h.pb ρ e).kept hg fun g e => (by cases e), h.ap, h.hB, h.apt, h.la, h.lb, h.na, h.nb⟩
  intro ρ e
  simp only [Option.some.injEq] at e
  subst e
  exact ⟨_, rfl, h.keeps.size, heap_alloc_new w _⟩
theorem JG.litB {tB : TypeId} {zB : Value} {w0 B eA eB ta tb A C x y w pa da db} (hT : OneT tB eB zB) (hy : One y) (h : JG w0 B eA eB ta tb A C x y w pa da none db) {K : Sl → World → Prop} (hk : ∀ ρ w', JG w0 B eA eB ta tb A C x y w' pa da (some ρ) db → K ρ w') : sem1 .sl PP (Instr.buildSlice tB 1 #[(0, y)]) w K :=
  h.swap.litA hT hy fun ρ w' hj => hk ρ w' hj.swap
theorem JG.appA {tA : TypeId} {zA : Value} {w0 B eA eB ta tb A C x y w ρ pb db} (hT : OneT tA eA zA) (hx : One x) (h : JG w0 B eA eB ta tb A C x y w (some ρ) none pb db) {K : Sl → World → Prop} (hk : ∀ t w', JG w0 B eA eB ta tb A C x y w' (some ρ) (some t) pb db → K t w') : sem1 .sl PP (Builtin.append_ #[tA, tA] tA #[ta.v, ρ.v]) w K := by
  have ha := h.a0 rfl
  have hsz := h.keeps.size
  refine append_row hT ha (Nat.le_trans h.hB hsz) (h.pa ρ rfl).row (fun v hv => by simp at hv; subst hv; exact hx) (by have := h.na; simp; omega) ?_
  intro s' w' ho hg hn _
  have kpl : ∀ e t M, Own w B e t M → (∀ g, t.blk = some g → tb.blk = some g ∨ w0.heap.size ≤ g) → Own w' B e t M := fun e t M ht hh => ht.kept hg fun g h1 h2 => by
    rcases hh g h1 with h3 | h3
    · exact h.apt g h2 h3
    · have := h.la g h2; omega
  refine hk s' w' ⟨h.keeps.trans ((keeps_grown hg).mono fun k e => .inl e), fun e => (by cases e), fun e => kpl _ _ _ (h.b0 e) fun g hg => .inl hg, fun t e => ?_, fun t e => ⟨kpl _ _ _ (h.b1 t e).1 (h.b1 t e).2, (h.b1 t e).2⟩, fun ρ e => (h.pa ρ e).kept hg h.la, fun ρ e => (h.pb ρ e).kept hg h.la, fun t u e1 e2 => ?_, h.hB, h.apt, h.la, h.lb, h.na, h.nb⟩
  · simp only [Option.some.injEq] at e
    subst e
    exact ⟨ho, fun g hg' => (hn g hg').imp id fun h1 => by omega⟩
  · simp only [Option.some.injEq] at e1
    subst e1
    intro g h1 h2
    have hu := (h.b1 u e2)
    rcases hn g h1 with h3 | h3
    · rcases hu.2 g h2 with h4 | h4
      · exact h.apt g h3 h4
      · have := h.la g h3; omega
    · have := (hu.1.lt g h2).2; omega
theorem JG.appB {tB : TypeId} {zB : Value} {w0 B eA eB ta tb A C x y w ρ pa da} (hT : OneT tB eB zB) (hy : One y) (h : JG w0 B eA eB ta tb A C x y w pa da (some ρ) none) {K : Sl → World → Prop} (hk : ∀ t w', JG w0 B eA eB ta tb A C x y w' pa da (some ρ) (some t) → K t w') : sem1 .sl PP (Builtin.append_ #[tB, tB] tB #[tb.v, ρ.v]) w K :=
  h.swap.appA hT hy fun t w' hj => hk t w' hj.swap
/-- A new variable, set at once; its block is new. -/
theorem new_set2 {t : TypeId} {u v : Value} {w : World} {K : Addr → World → Prop} (h : ∀ ad w', w'.cell? ad = some v → w.heap.size ≤ ad.block → Below w.heap.size w w' → K ad w') : newK t #[u] w fun ad w1 => storeC ad v w1 (K ad) := by
  have hnew := heap_alloc_new w (.cells #[u] t)
  have hc : (w.alloc (.cells #[u] t)).cell? ⟨w.heap.size, 0, none⟩ = some u := by
    have := cell_of_row (w.alloc (.cells #[u] t)) w.heap.size 0 #[u] t (0, 0) hnew
    rw [this]; rfl
  refine ⟨⟨u, hc⟩, by simp only [World.frozen?, hnew]; rfl, h _ _ ?_ (Nat.le_refl _) ?_⟩
  · have h1 : ((w.alloc (.cells #[u] t)).setCell ⟨w.heap.size, 0, none⟩ v).heap[w.heap.size]? = some (.cells (#[u].setIfInBounds 0 v) t (0, 0)) := by
      simp only [World.setCell, Array.getElem?_modify, hnew]; rfl
    have := cell_of_row _ w.heap.size 0 _ t (0, 0) h1
    rw [this]; rfl
  · have hb := below_of_grow (World.grownBy_alloc w (.cells #[u] t) none)
    refine ⟨hb.os, hb.tape, hb.output, by simp [World.setCell], fun k hk => ?_⟩
    rw [Below.heap_setCell _ _ _ _ (by simp; omega)]
    exact hb.block k hk
end Go.Proofs.Ytmhgjfahgemblaa
