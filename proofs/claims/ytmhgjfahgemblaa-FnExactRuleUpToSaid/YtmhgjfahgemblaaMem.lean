/- Rows in memory: what a slice reads, what a call owns, and what append, literals, make, loads and stores do to both. -/
import Derived.Test.YtmhgjfahgemblaaLib
import Derived.Below
import Derived.Deep.AppendSrc
import Derived.Deep.DeepAppendWide
import Derived.Great.BuildSlice
import Derived.Laws.OwnMore
namespace Go.Proofs.Ytmhgjfahgemblaa
open Go Go.RowKit

/-- A slice type whose elements are one cell. -/
def OneT (t e : TypeId) (z : Value) : Prop := ∃ i, PP.underlying t = some (.slice e) ∧ PP.info? e = some i ∧ i.zero = some z ∧ i.size = 1 ∧ i.bytes ≤ 24 ∧ z.cells = #[z]
theorem oneT_of {t e : TypeId} {z : Value} (hu : PP.underlying t = some (.slice e)) (h : (PP.info? e).map (fun i => (i.zero, i.size, Nat.ble i.bytes 24)) = some (some z, 1, true)) (hz : z.cells = #[z]) : OneT t e z := by
  cases hi : PP.info? e with
  | none => rw [hi] at h; cases h
  | some i =>
    rw [hi] at h
    simp only [Option.map_some, Option.some.injEq, Prod.mk.injEq] at h
    exact ⟨i, hu, hi, h.1, h.2.1, Nat.le_of_ble_eq_true h.2.2, hz⟩
/-- A text's byte. -/
def bt (s : ByteArray) (k : Nat) : Int := match s[k]? with
  | some b => (b.toNat : Int)
  | none => 0
theorem strIdx_intro {s : ByteArray} {i : Int} (h0 : 0 ≤ i) (h : i < (s.size : Int)) {K : Int → Prop} (hk : K (bt s i.toNat)) : strIdxK s i K := by
  have hlt : i.toNat < s.size := by omega
  refine ⟨s[i.toNat], h0, getElem?_pos s i.toNat hlt, ?_⟩
  unfold bt at hk
  rw [getElem?_pos s i.toNat hlt] at hk
  exact hk
/-- A value of one cell. -/
def One (v : Value) : Prop := v.cells = #[v] ∧ v.oneCell' = true
theorem One.int (n : Int) : One (vI n) := ⟨rfl, rfl⟩
theorem One.str (s : ByteArray) : One (.string s) := ⟨rfl, rfl⟩
theorem One.sl (s : Sl) : One s.v := ⟨rfl, rfl⟩
theorem One.bool (b : Bool) : One (.bool b) := ⟨rfl, rfl⟩

theorem add_lit (g off j : Nat) : (⟨g, off, none⟩ : Addr).add j = ⟨g, off + j, none⟩ := by unfold Addr.add; split <;> simp_all
theorem add_zero' (a : Addr) : a.add 0 = a := by simp [Addr.add]
theorem add_block (a : Addr) (j : Nat) : (a.add j).block = a.block := by unfold Addr.add; split <;> rfl

/-- What a slice reads. -/
structure Row (w : World) (s : Sl) (vs : List Value) : Prop where
  n : s.n = vs.length
  nc : s.n ≤ s.c
  cell : ∀ i v, vs[i]? = some v → ∃ a, s.a = some a ∧ w.cell? (a.add i) = some v

/-- The block of a slice that may be written. -/
def Sl.blk (s : Sl) : Option Nat := if s.c = 0 then none else s.a.map (·.block)

/-- A slice of the call's own: its block, from B on, is of the element type 'e', no one else's, unfrozen; it begins at the block's begin and its capacity is all of it. -/
structure Own (w : World) (B : Nat) (e : TypeId) (s : Sl) (vs : List Value) : Prop where
  n : s.n = vs.length
  nc : s.n ≤ s.c
  cm : s.c ≤ maxLen
  at_ : s.c = 0 ∨ ∃ g cur, s.a = some ⟨g, 0, none⟩ ∧ B ≤ g ∧ w.heap[g]? = some (.cells cur e (0, 0)) ∧ cur.size = s.c ∧ cur.toList.take s.n = vs

theorem Own.nil (w : World) (B : Nat) (e : TypeId) : Own w B e Sl.nil [] := ⟨rfl, Nat.le_refl _, by simp [Sl.nil], .inl rfl⟩
theorem Own.row {w B e s vs} (h : Own w B e s vs) : Row w s vs := by
  refine ⟨h.n, h.nc, fun i v hv => ?_⟩
  have hi : i < vs.length := (List.getElem?_eq_some_iff.1 hv).1
  rcases h.at_ with h0 | ⟨g, cur, ha, _, hg, hs, ht⟩
  · have := h.nc; have := h.n; omega
  · refine ⟨_, ha, ?_⟩
    rw [add_lit]
    rw [cell_of_row w g (0 + i) cur e (0, 0) hg]
    rw [← ht, List.getElem?_take] at hv
    split at hv
    · simpa using hv
    · cases hv
theorem Own.lt {w B e s vs} (h : Own w B e s vs) : ∀ g, s.blk = some g → B ≤ g ∧ g < w.heap.size := by
  intro g hg
  unfold Sl.blk at hg
  split at hg
  · cases hg
  · rcases h.at_ with h0 | ⟨g', cur, ha, hb, hg', _⟩
    · omega
    · rw [ha] at hg; simp at hg; subst hg
      exact ⟨hb, (Array.getElem?_eq_some_iff.1 hg').1⟩
theorem Own.kept {w w' B e s vs} {r : Option Nat} (h : Own w B e s vs) (hg : w.grownBy w' r) (hne : ∀ g, s.blk = some g → r ≠ some g) : Own w' B e s vs := by
  refine ⟨h.n, h.nc, h.cm, ?_⟩
  rcases h.at_ with h0 | ⟨g, cur, ha, hb, hh, rest⟩
  · exact .inl h0
  · by_cases hc : s.c = 0
    · exact .inl hc
    · refine .inr ⟨g, cur, ha, hb, ?_, rest⟩
      have : s.blk = some g := by simp [Sl.blk, hc, ha]
      rw [hg.block g (Array.getElem?_eq_some_iff.1 hh).1 (fun e => hne g this e.symm)]
      exact hh
theorem Own.below {w w' B B2 e s vs} (h : Own w B e s vs) (hg : Below B2 w w') (hl : ∀ g, s.blk = some g → g < B2) : Own w' B e s vs := by
  refine ⟨h.n, h.nc, h.cm, ?_⟩
  rcases h.at_ with h0 | ⟨g, cur, ha, hb, hh, rest⟩
  · exact .inl h0
  · by_cases hc : s.c = 0
    · exact .inl hc
    · refine .inr ⟨g, cur, ha, hb, ?_, rest⟩
      have : s.blk = some g := by simp [Sl.blk, hc, ha]
      rw [hg.block g (hl g this)]
      exact hh
theorem Own.mono {w B B' e s vs} (h : Own w B e s vs) (hb : B' ≤ B) : Own w B' e s vs :=
  ⟨h.n, h.nc, h.cm, h.at_.imp id fun ⟨g, cur, ha, hb', r⟩ => ⟨g, cur, ha, Nat.le_trans hb hb', r⟩⟩
theorem Own.heap {w w' B e s vs} (h : Own w B e s vs) (hh : w'.heap = w.heap) : Own w' B e s vs :=
  ⟨h.n, h.nc, h.cm, by rw [hh]; exact h.at_⟩
theorem Row.below {w w' B2 s vs} (h : Row w s vs) (hb : Below B2 w w') (hl : ∀ a, s.a = some a → vs ≠ [] → a.block < B2) : Row w' s vs :=
  ⟨h.n, h.nc, fun i v hv => by
    obtain ⟨a, ha, hc⟩ := h.cell i v hv
    exact ⟨a, ha, by rw [hb.cell (by rw [add_block]; exact hl a ha (by rintro rfl; simp at hv))]; exact hc⟩⟩
/-- A row that was there before a call that only adds. -/
theorem Row.grow {w w' s vs} (h : Row w s vs) (hb : Below w.heap.size w w') : Row w' s vs :=
  ⟨h.n, h.nc, fun i v hv => by
    obtain ⟨a, ha, hc⟩ := h.cell i v hv
    exact ⟨a, ha, by rw [hb.cell (World.block_lt_of_cell? w _ hc)]; exact hc⟩⟩
theorem Row.heap {w w' s vs} (h : Row w s vs) (hh : w'.heap = w.heap) : Row w' s vs :=
  ⟨h.n, h.nc, fun i v hv => by
    obtain ⟨a, ha, hc⟩ := h.cell i v hv
    exact ⟨a, ha, by simpa [World.cell?, hh] using hc⟩⟩
theorem Drew.heap' {w w' : World} (h : Drew w w') : w'.heap = w.heap := by obtain ⟨n, rfl⟩ := h; rfl
theorem Drew.below {w w' : World} (h : Drew w w') (B : Nat) : Below B w w' := by
  obtain ⟨n, rfl⟩ := h
  exact ⟨rfl, rfl, rfl, Nat.le_refl _, fun _ _ => rfl⟩
theorem grow_of_below {w w' : World} (h : Below w.heap.size w w') : w.grownBy w' none := ⟨h.os, h.tape, h.output, h.size, fun k hk _ => h.block k hk⟩
theorem below_of_grow {w w' : World} (h : w.grownBy w' none) : Below w.heap.size w w' := ⟨h.os, h.tape, h.output, h.size, fun k hk => h.block k hk (by simp)⟩

/-! ### Reading -/
theorem drew_intro {w : World} {K : World → Prop} (h : ∀ w', Drew w w' → K w') : drewAll w K := h
theorem Row.get {w s vs} (h : Row w s vs) {i : Int} {sh : Sh} {r : sh.T} (h0 : 0 ≤ i) (hv : vs[i.toNat]? = some (sh.enc r)) {K : sh.T → Prop} (hk : K r) : idxK 1 s i fun a => load1 sh a w K := by
  obtain ⟨a, ha, hc⟩ := h.cell _ _ hv
  have hi : i.toNat < vs.length := (List.getElem?_eq_some_iff.1 hv).1
  refine ⟨a, ha, h0, by have := h.n; omega, ?_⟩
  rw [Nat.mul_one]
  exact ⟨r, hc, hk⟩
/-- A row of ints. -/
@[reducible] def RowI (w : World) (s : Sl) (L : List Int) : Prop := Row w s (L.map vI)
@[reducible] def OwnI (w : World) (B : Nat) (s : Sl) (L : List Int) : Prop := Own w B T_int s (L.map vI)
theorem RowI.get {w s L} (h : RowI w s L) {i : Int} (h0 : 0 ≤ i) (hi : i < L.length) {K : Int → Prop} (hk : K (L.getD i.toNat 0)) : idxK 1 s i fun a => load1 (.int .i64) a w K := by
  have hlt : i.toNat < L.length := by omega
  refine Row.get (sh := .int .i64) (r := L.getD i.toNat 0) h h0 ?_ hk
  simp [List.getD_eq_getElem?_getD, List.getElem?_eq_getElem hlt]

theorem RowI.place {w s L} (h : RowI w s L) {i : Int} (h0 : 0 ≤ i) (hi : i < L.length) {K : Addr → Prop} (hk : ∀ a, w.cell? a = some (vI (L.getD i.toNat 0)) → K a) : idxK 1 s i K := by
  have hlt : i.toNat < L.length := by omega
  obtain ⟨a, ha, hc⟩ := h.cell i.toNat (vI (L.getD i.toNat 0)) (by simp [List.getD_eq_getElem?_getD, List.getElem?_eq_getElem hlt])
  have hn := h.n
  refine ⟨a, ha, h0, by rw [hn]; simp; omega, ?_⟩
  rw [Nat.mul_one]
  exact hk _ hc
theorem load_int {w : World} {a : Addr} {x : Int} (h : w.cell? a = some (vI x)) {K : Int → Prop} (hk : K x) : load1 (.int .i64) a w K := ⟨x, h, hk⟩

/-! ### append of one value -/
theorem fill_one (z v : Value) (hz : z.cells = #[z]) (hv : One v) : Instr.fill (fun i => some (i * 1, 1)) ((Array.range (1 * 1)).map (z.cells[· % z.cells.size]!)) [(0, v)] = some #[v] := by
  simp [Instr.fill, hv.1, hz, Array.range]
  rfl

theorem run_lit1 {t e z} (hT : OneT t e z) {v : Value} (hv : One v) (w : World) :
    (Instr.buildSlice t 1 #[(0, v)]).run PP w = .ok (.slice (some ⟨w.heap.size, 0, none⟩) 1 1) (w.alloc (.cells #[v] e)) := by
  obtain ⟨i, hu, hi, hz, hs, hb, hzc⟩ := hT
  refine run_buildSlice w t e 1 #[(0, v)] #[v] i z hu hi hz (by rw [hs]; decide) (by rw [hs]; decide) ?_
  rw [hs]
  exact fill_one z v hzc hv

/-- Cells stored one behind the other into a block. -/
theorem setCells_heap (g : Nat) (e : TypeId) : ∀ (vs : List Value) (o : Nat) (w : World) (cur : Array Value), w.heap[g]? = some (.cells cur e (0, 0)) → o + vs.length ≤ cur.size →
    ∃ cur', (w.setCells g o vs).heap[g]? = some (.cells cur' e (0, 0)) ∧ cur'.size = cur.size ∧ (∀ k, cur'[k]? = if o ≤ k ∧ k < o + vs.length then vs[k - o]? else cur[k]?) ∧ w.grownBy (w.setCells g o vs) (some g)
  | [], o, w, cur, h, _ => ⟨cur, h, rfl, fun k => by rw [if_neg (by simp only [List.length_nil]; omega)], ⟨rfl, rfl, rfl, Nat.le_refl _, fun _ _ _ => rfl⟩⟩
  | v :: r, o, w, cur, h, hl => by
    have h1 : (w.setCell ⟨g, o, none⟩ v).heap[g]? = some (.cells (cur.setIfInBounds o v) e (0, 0)) := by
      simp [World.setCell, Array.getElem?_modify, h]
    obtain ⟨cur', h2, h3, h4, h5⟩ := setCells_heap g e r (o + 1) _ _ h1 (by simp at hl ⊢; omega)
    refine ⟨cur', h2, by rw [h3]; simp, fun k => ?_, ?_⟩
    · rw [h4 k]
      simp only [List.length_cons] at hl ⊢
      by_cases hk : k = o
      · subst hk
        rw [if_neg (by omega), if_pos (by omega)]
        simp [show k < cur.size by omega]
      · by_cases hk2 : o + 1 ≤ k ∧ k < o + 1 + r.length
        · rw [if_pos hk2, if_pos (by omega)]
          obtain ⟨d, rfl⟩ : ∃ d, k = o + 1 + d := ⟨k - (o + 1), by omega⟩
          rw [show o + 1 + d - (o + 1) = d by omega, show o + 1 + d - o = d + 1 by omega, List.getElem?_cons_succ]
        · rw [if_neg hk2, if_neg (by omega), Array.getElem?_setIfInBounds_ne (by omega)]
    · refine ⟨h5.os, h5.tape, h5.output, ?_, fun k hk hne => ?_⟩
      · have := h5.size; rw [show (w.setCell ⟨g, o, none⟩ v).heap.size = w.heap.size by simp [World.setCell]] at this; exact this
      · show ((w.setCell ⟨g, o, none⟩ v).setCells g (o + 1) r).heap[k]? = _
        rw [h5.block k (by simpa [World.setCell] using hk) hne]
        exact Below.heap_setCell _ _ _ _ (fun e => hne (by simp [e]))

/-- How a new slice stands to the old: the same block, or a new one. -/
def Next (w : World) (s s' : Sl) : Prop := ∀ g, s'.blk = some g → s.blk = some g ∨ w.heap.size ≤ g

theorem run_append_row {t e z} (hT : OneT t e z) {w : World} {B : Nat} {s r : Sl} {vs news : List Value} (hown : Own w B e s vs) (hB : B ≤ w.heap.size)
    (hr : Row w r news) (h1 : ∀ v ∈ news, One v) (hn : vs.length + news.length < 2^40) :
    ∃ (s' : Sl) (w' : World), (Builtin.append_ #[t, t] t #[s.v, r.v]).run PP w = .ok s'.v w' ∧ Own w' B e s' (vs ++ news) ∧ w.grownBy w' s.blk ∧ Next w s s' ∧ (news = [] → s' = s ∧ w' = w) ∧ (vs.length + news.length ≤ s.c → s'.c = s.c) := by
  obtain ⟨i, hu, hi, hz, hs, hb, hzc⟩ := hT
  have hsrc : Src PP i.size t r.v r.n news w := by
    rw [hs]
    cases hra : r.a with
    | none =>
      have : news = [] := by
        cases news with
        | nil => rfl
        | cons v l => obtain ⟨a, ha, _⟩ := hr.cell 0 v rfl; rw [hra] at ha; cases ha
      subst this
      have h0 : r.n = 0 := by have := hr.n; simpa using this
      have := Src.ofNil (P := PP) (size := 1) w hu r.c
      simp only [Sl.v, hra, h0]
      exact this
    | some a =>
      have := Src.ofSlice (P := PP) (size := 1) w hu a r.n r.c news (by rw [hr.n]; simp) (fun j u hj => by
        obtain ⟨a', ha, hc⟩ := hr.cell j u hj
        rw [hra] at ha; cases ha; exact hc) (fun u hu => (h1 u hu).2)
      simp only [Sl.v, hra]
      exact this
  have hrn : r.n = news.length := hr.n
  have hsn : s.n = vs.length := hown.n
  by_cases hroom : s.n + r.n ≤ s.c
  · by_cases hc0 : s.c = 0
    · have hnn : news = [] := List.eq_nil_of_length_eq_zero (by omega)
      have hvn : vs = [] := List.eq_nil_of_length_eq_zero (by omega)
      subst hnn hvn
      refine ⟨s, w, ?_, by simpa using hown, ⟨rfl, rfl, rfl, Nat.le_refl _, fun _ _ _ => rfl⟩, fun g hg => .inl hg, fun _ => ⟨rfl, rfl⟩, fun _ => rfl⟩
      have h00 : r.n = 0 := by simpa using hrn
      have h01 : s.n = 0 := by simpa using hsn
      have hsc := hsrc.cells
      rw [h00] at hsc
      rcases hsrc.kind with ⟨e', hk⟩ | hk
      · simp only [Builtin.append_]
        simp [run_underlying hu, sizeOf, typeInfo, hi, hsrc.len, hsc, h00, h01]
        cases hsa : s.a <;> simp [storeCells] <;> exact ⟨hsa.symm, h01.symm⟩
      · rw [hu] at hk; cases hk
    · rcases hown.at_ with h0 | ⟨g, cur, ha, hbg, hg, hcs, htake⟩
      · exact absurd h0 hc0
      · have hcell : ∀ k, w.cell? ⟨g, k, none⟩ = cur[k]? := fun k => cell_of_row w g k cur e (0, 0) hg
        have hrun := run_append_room_src (P := PP) w t t t e i hu hi g 0 s.n s.c r.v r.n news hsrc hroom (fun j hj => by rw [hcell, hs]; simp; omega) (fun j hj => by simp [World.frozen?, hg])
        rw [hs, Nat.zero_add, Nat.mul_one] at hrun
        obtain ⟨cur', h2, h3, h4, h5⟩ := setCells_heap g e news s.n w cur hg (by omega)
        have hblk : s.blk = some g := by simp [Sl.blk, hc0, ha]
        refine ⟨⟨some ⟨g, 0, none⟩, s.n + r.n, s.c⟩, _, ?_, ⟨by simp; omega, hroom, hown.cm, .inr ⟨g, cur', rfl, hbg, h2, by rw [h3, hcs], ?_⟩⟩, by rw [hblk]; exact h5, fun g' hg' => .inl ?_, fun hn => ?_, fun _ => rfl⟩
        · simp only [Sl.v, ha]; exact hrun
        · apply List.ext_getElem?
          intro k
          rw [List.getElem?_take]
          simp only
          by_cases hk : k < s.n + r.n
          · rw [if_pos hk, Array.getElem?_toList, h4 k]
            by_cases hk2 : k < s.n
            · rw [if_neg (by omega), List.getElem?_append_left (by omega), ← htake, List.getElem?_take, if_pos hk2, Array.getElem?_toList]
            · rw [if_pos (by omega), List.getElem?_append_right (by omega), hsn]
          · rw [if_neg hk, List.getElem?_eq_none (by simp; omega)]
        · rw [hblk]
          simp only [Sl.blk, hc0, if_false, Option.map_some] at hg'
          exact hg'
        · subst hn
          have h00 : r.n = 0 := by simpa using hrn
          refine ⟨?_, rfl⟩
          cases s
          simp_all
  · have hgt : s.c < s.n + r.n := by omega
    have hold : (Builtin.firstCells i.size s.n (.slice s.a s.n s.c)).run PP w.drew = .ok vs.toArray w.drew := by
      rw [hs]
      cases hsa : s.a with
      | none =>
        have : vs = [] := by
          cases vs with
          | nil => rfl
          | cons v l => obtain ⟨a, ha, _⟩ := hown.row.cell 0 v rfl; rw [hsa] at ha; cases ha
        subst this
        exact run_firstCells_none w.drew 1 s.n s.n s.c
      | some a =>
        refine run_firstCells_some w.drew 1 s.n a s.n s.c vs (by omega) (fun j u hj => ?_)
        obtain ⟨a', ha, hc⟩ := hown.row.cell j u hj
        rw [hsa] at ha; cases ha; exact hc
    have hrun := run_append_grow_src (P := PP) w t t t e i z hu hi hz s.a s.n s.c vs hold r.v r.n news hsrc hgt (by omega) (growslice_fits (by omega) (by
      have : (s.n + r.n) * i.bytes ≤ (s.n + r.n) * 24 := Nat.mul_le_mul_left _ hb
      omega))
    have hge := grownCap_ge w (s.n + r.n) s.c e
    have hcm := grownCap_le_maxLen w (s.n + r.n) s.c e (by simp only [maxLen]; omega)
    refine ⟨⟨some ⟨w.heap.size, 0, none⟩, s.n + r.n, grownCap w (s.n + r.n) s.c e⟩, _, hrun, ⟨by simp; omega, hge, hcm, .inr ⟨w.heap.size, _, rfl, hB, heap_alloc_new w.drew _, ?_, ?_⟩⟩, ⟨rfl, rfl, rfl, by simp, fun k hk _ => heap_alloc_old w.drew _ hk⟩, fun g hg => .inr ?_, fun hn => ?_, fun hcc => by omega⟩
    · simp [size_zeroCells, hzc]; omega
    · simp only [Array.toList_append]
      rw [show s.n + r.n = (vs ++ news).length by simp; omega]
      exact List.take_left
    · simp only [Sl.blk] at hg
      split at hg
      · cases hg
      · simp at hg; omega
    · subst hn; have := hown.nc; simp at hrn; omega

theorem append_row {t e z} (hT : OneT t e z) {w : World} {B : Nat} {s r : Sl} {vs news : List Value} (hown : Own w B e s vs) (hB : B ≤ w.heap.size)
    (hr : Row w r news) (h1 : ∀ v ∈ news, One v) (hn : vs.length + news.length < 2^40) {K : Sl → World → Prop}
    (h : ∀ s' w', Own w' B e s' (vs ++ news) → w.grownBy w' s.blk → Next w s s' → (news = [] → s' = s ∧ w' = w) → K s' w') : sem1 .sl PP (Builtin.append_ #[t, t] t #[s.v, r.v]) w K := by
  obtain ⟨s', w', h1, h2, h3, h4, h5, _⟩ := run_append_row hT hown hB hr h1 hn
  exact ⟨s', w', h1, h _ _ h2 h3 h4 h5⟩

/-- The same where there is room. -/
theorem append_room {t e z} (hT : OneT t e z) {w : World} {B : Nat} {s r : Sl} {vs news : List Value} (hown : Own w B e s vs) (hB : B ≤ w.heap.size)
    (hr : Row w r news) (h1 : ∀ v ∈ news, One v) (hn : vs.length + news.length < 2^40) (hc : vs.length + news.length ≤ s.c) {K : Sl → World → Prop}
    (h : ∀ s' w', Own w' B e s' (vs ++ news) → w.grownBy w' s.blk → Next w s s' → s'.c = s.c → K s' w') : sem1 .sl PP (Builtin.append_ #[t, t] t #[s.v, r.v]) w K := by
  obtain ⟨s', w', h1, h2, h3, h4, h5, h6⟩ := run_append_row hT hown hB hr h1 hn
  exact ⟨s', w', h1, h _ _ h2 h3 h4 (h6 hc)⟩

/-- 'append(s, v)'. -/
theorem append_one {t e z} (hT : OneT t e z) {w : World} {B : Nat} {s : Sl} {vs : List Value} {v : Value} (hown : Own w B e s vs) (hB : B ≤ w.heap.size) (hv : One v) (hn : vs.length < 2^39) {K : Sl → World → Prop}
    (h : ∀ s' w', Own w' B e s' (vs ++ [v]) → w.grownBy w' s.blk → Next w s s' → K s' w') :
    sem1 .sl PP (Instr.buildSlice t 1 #[(0, v)]) w fun r w1 => sem1 .sl PP (Builtin.append_ #[t, t] t #[s.v, r.v]) w1 K := by
  refine ⟨⟨some ⟨w.heap.size, 0, none⟩, 1, 1⟩, _, run_lit1 hT hv w, ?_⟩
  have hg1 : w.grownBy (w.alloc (.cells #[v] e)) none := World.grownBy_alloc w _ none
  have hnew : (w.alloc (.cells #[v] e)).heap[w.heap.size]? = some (.cells #[v] e (0, 0)) := heap_alloc_new w _
  refine append_row hT (hown.kept hg1 (fun _ _ => by simp)) (by simp; omega) (news := [v]) ⟨rfl, Nat.le_refl _, fun i u hu => ⟨_, rfl, ?_⟩⟩ (by simpa using hv) (by simp; omega) ?_
  · cases i with
    | zero =>
      simp at hu; subst hu
      rw [add_zero', cell_of_row _ _ _ _ _ _ hnew]; rfl
    | succ i => simp at hu
  · intro s' w' h2 h3 h4 _
    refine h s' w' h2 ⟨h3.os, h3.tape, h3.output, by have := h3.size; simp at this; omega, fun k hk hne => ?_⟩ fun g hg => ?_
    · rw [h3.block k (by simp; omega) hne]; exact heap_alloc_old w _ hk
    · rcases h4 g hg with h5 | h5
      · exact .inl h5
      · simp at h5; exact .inr (by omega)

theorem oneInt : OneT T_Sint T_int (vI 0) := oneT_of (by kernel_rfl) (by kernel_rfl) rfl
theorem append_int {w : World} {B : Nat} {s : Sl} {L : List Int} {x : Int} (hown : OwnI w B s L) (hB : B ≤ w.heap.size) (hn : L.length < 2^39) {K : Sl → World → Prop}
    (h : ∀ s' w', OwnI w' B s' (L ++ [x]) → w.grownBy w' s.blk → Next w s s' → K s' w') :
    sem1 .sl PP (Instr.buildSlice T_Sint 1 #[(0, vI x)]) w fun r w1 => sem1 .sl PP (Builtin.append_ #[T_Sint, T_Sint] T_Sint #[s.v, r.v]) w1 K :=
  append_one oneInt hown hB (One.int x) (by simpa using hn) fun s' w' h1 h2 h3 => h s' w' (by simp only [OwnI, List.map_append, List.map_cons, List.map_nil]; exact h1) h2 h3

/-! ### Literals, make -/
theorem run_lit0 {P : Program} {t e : TypeId} {i : TypeInfo} (hu : P.underlying t = some (.slice e)) (hi : P.info? e = some i) (w : World) :
    (Instr.buildSlice t 0 #[]).run P w = .ok (.slice (some ⟨w.heap.size, 0, none⟩) 0 0) (w.alloc (.cells #[] e)) := by
  simp [Instr.buildSlice, run_underlying hu, sizeOf, typeInfo, hi, Instr.fill, newRow]
  congr 2
  apply Array.eq_empty_of_size_eq_zero
  simp
theorem lit0 {t e z} (hT : OneT t e z) {w : World} {B : Nat} (hB : B ≤ w.heap.size) {K : Sl → World → Prop}
    (h : ∀ s w', Own w' B e s [] → w.grownBy w' none → s.c = 0 → K s w') : sem1 .sl PP (Instr.buildSlice t 0 #[]) w K := by
  obtain ⟨i, hu, hi, hz, hs, hb, hzc⟩ := hT
  exact ⟨⟨some ⟨w.heap.size, 0, none⟩, 0, 0⟩, w.alloc (.cells #[] e), run_lit0 hu hi w, h _ _ ⟨rfl, Nat.le_refl _, by simp, .inl rfl⟩ (World.grownBy_alloc w _ none) rfl⟩
theorem lit1 {t e z} (hT : OneT t e z) {w : World} {B : Nat} (hB : B ≤ w.heap.size) {v : Value} (hv : One v) {K : Sl → World → Prop}
    (h : ∀ s w', Own w' B e s [v] → w.grownBy w' none → Next w Sl.nil s → K s w') : sem1 .sl PP (Instr.buildSlice t 1 #[(0, v)]) w K := by
  refine ⟨⟨some ⟨w.heap.size, 0, none⟩, 1, 1⟩, _, run_lit1 hT hv w, h _ _ ⟨rfl, Nat.le_refl _, by simp only [maxLen]; omega, .inr ⟨_, _, rfl, hB, heap_alloc_new w _, rfl, rfl⟩⟩ (World.grownBy_alloc w _ none) fun g hg => .inr ?_⟩
  simp [Sl.blk] at hg; omega
theorem madeCells_one (z : Value) (n : Nat) : (madeCells #[z] n).toList = List.replicate n z := by
  unfold madeCells
  apply List.ext_getElem?
  intro i
  simp [List.getElem?_replicate, Nat.mod_one]
  by_cases h : i < n <;> simp [h]
theorem make_own {t e z} (hT : OneT t e z) {w : World} {B : Nat} (hB : B ≤ w.heap.size) {n : Int} (h0 : 0 ≤ n) (hn : n < 2^39) {K : Sl → World → Prop}
    (h : ∀ s w', Own w' B e s (List.replicate n.toNat z) → w.grownBy w' none → Next w Sl.nil s → K s w') : sem1 .sl PP (Instr.makeSlice t (vI n) (vI n)) w K := by
  obtain ⟨i, hu, hi, hz, hs, hb, hzc⟩ := hT
  obtain ⟨m, rfl⟩ : ∃ m : Nat, n = m := ⟨n.toNat, by omega⟩
  have hbm : i.bytes * m ≤ 281474976710656 := by
    have h1 : i.bytes * m ≤ 24 * m := Nat.mul_le_mul_right _ hb
    omega
  obtain ⟨w', hr, how, hg⟩ := run_make_full (P := PP) w B t e i z 1 hu hi hz hs .i64 .i64 m hbm (by simp only [maxLen]; omega) hB
  refine ⟨⟨some ⟨w.heap.size, 0, none⟩, m, m⟩, w', hr, h _ _ ?_ hg fun g hg => .inr ?_⟩
  · rw [hzc, Nat.mul_one, madeCells_one] at how
    refine ⟨by simp, Nat.le_refl _, by simp only [maxLen]; omega, ?_⟩
    rcases how.2 with ⟨h1, _⟩ | ⟨g, cap, cur, h1, h2, h3, h4, h5, h6, h7⟩
    · cases h1
    · simp only [Value.slice.injEq, Option.some.injEq, Addr.mk.injEq] at h1
      obtain ⟨⟨rfl, _, _⟩, _, rfl⟩ := h1
      exact .inr ⟨_, cur, rfl, h2, h3, by simpa using h6, by simpa using h7⟩
  · simp [Sl.blk] at hg; omega

/-! ### Stores, cuts -/
theorem Own.put {w B e s vs} (h : Own w B e s vs) {i : Int} (h0 : 0 ≤ i) (hi : i < vs.length) {v : Value} {K : World → Prop}
    (hK : ∀ w', Own w' B e s (vs.set i.toNat v) → w.grownBy w' s.blk → w'.heap.size = w.heap.size → K w') : idxK 1 s i fun a => storeC a v w K := by
  have hn := h.n
  have hnc := h.nc
  have hlt : i.toNat < vs.length := by omega
  rcases h.at_ with hc | ⟨g, cur, ha, hb, hg, hs, ht⟩
  · omega
  have hc0 : s.c ≠ 0 := by omega
  have hblk : s.blk = some g := by simp [Sl.blk, hc0, ha]
  refine ⟨_, ha, h0, by omega, ?_⟩
  rw [Nat.mul_one, add_lit, Nat.zero_add]
  have hcell := cell_of_row w g i.toNat cur e (0, 0) hg
  refine ⟨⟨cur[i.toNat]'(by omega), by rw [hcell]; simp⟩, by simp [World.frozen?, hg], hK _ ?_ ?_ (by simp [World.setCell])⟩
  · have hg' : (w.setCell ⟨g, i.toNat, none⟩ v).heap[g]? = some (.cells (cur.setIfInBounds i.toNat v) e (0, 0)) := by
      simp [World.setCell, Array.getElem?_modify, hg]
    refine ⟨by simp [hn], hnc, h.cm, .inr ⟨g, _, ha, hb, hg', by simpa using hs, ?_⟩⟩
    rw [Array.toList_setIfInBounds, List.take_set, ht]
  · rw [hblk]
    exact ⟨rfl, rfl, rfl, by simp [World.setCell], fun k hk hne => Below.heap_setCell _ _ _ _ (fun e => hne (by simp [e]))⟩
theorem add_add (a : Addr) (i j : Nat) : (a.add i).add j = a.add (i + j) := by
  unfold Addr.add
  by_cases hi : i = 0
  · simp [hi]
  · by_cases hj : j = 0
    · simp [hj]
    · simp [hi, hj, Nat.add_assoc]
theorem Row.cut {w s vs} (h : Row w s vs) {lo hi : Option Int} (h0 : 0 ≤ lo.getD 0) (h1 : lo.getD 0 ≤ hi.getD s.n) (h2 : hi.getD s.n ≤ vs.length) {K : Sl → Prop}
    (hK : ∀ t : Sl, Row w t ((vs.take (hi.getD s.n).toNat).drop (lo.getD 0).toNat) → K t) : cutK 1 s lo hi K := by
  have hn := h.n
  have hnc := h.nc
  refine ⟨h0, h1, by omega, hK _ ⟨?_, ?_, fun i v hv => ?_⟩⟩
  · simp [Sl.cut]; omega
  · simp only [Sl.cut]; omega
  · rw [List.getElem?_drop, List.getElem?_take] at hv
    split at hv
    · obtain ⟨a, ha, hc⟩ := h.cell _ v hv
      have hlt : (lo.getD 0).toNat + i < vs.length := (List.getElem?_eq_some_iff.1 hv).1
      refine ⟨a.add ((lo.getD 0).toNat), ?_, by rw [add_add]; exact hc⟩
      simp only [Sl.cut, Nat.mul_one]
      rw [if_neg (by omega), ha]; rfl
    · cases hv

/-- 's[:hi]' of a row of the call's own. -/
theorem Own.pop {w B e s vs} (h : Own w B e s vs) {hi : Int} (h0 : 0 ≤ hi) (h1 : hi ≤ vs.length) {K : Sl → Prop} (hK : ∀ t : Sl, Own w B e t (vs.take hi.toNat) → t.blk = s.blk → K t) : cutK 1 s none (some hi) K := by
  have hn := h.n
  have hnc := h.nc
  refine ⟨by simp, by simpa using h0, by simp; omega, ?_⟩
  have ea : (s.cut 1 ((none : Option Int).getD 0).toNat ((some hi).getD (s.n : Int)).toNat) = ⟨s.a, hi.toNat, s.c⟩ := by
    simp only [Sl.cut, Option.getD_none, Option.getD_some, Int.toNat_zero, Nat.zero_mul, Nat.sub_zero]
    cases s.a <;> simp [add_zero']
  rw [ea]
  refine hK _ ⟨by simp; omega, by simp only; omega, h.cm, ?_⟩ rfl
  rcases h.at_ with hc | ⟨g, cur, ha, hb, hg, hs, ht⟩
  · exact .inl hc
  · refine .inr ⟨g, cur, ha, hb, hg, hs, ?_⟩
    rw [← ht, List.take_take]
    congr 1
    simp only
    omega

/-- 's[n:n+1]' behind the end, cleared. -/
theorem clear_spare {tt} {w : World} {B : Nat} {s : Sl} {vs : List Value} (h : Own w B T_int s vs) {n : Int} (hn : n = vs.length + 1) (hc : vs.length + 1 ≤ s.c) {K : Value → World → Prop}
    (hk : ∀ r w', Own w' B T_int s vs → w.grownBy w' s.blk → w'.heap.size = w.heap.size → K r w') :
    cutK 1 s (some (s.n : Int)) (some n) fun s6 => sem1 .any PP (Builtin.clear_ #[T_Sint] tt #[s6.v]) w K := by
  have hsn := h.n
  subst hn
  refine ⟨by simp, by simp; omega, by simp; omega, ?_⟩
  rcases h.at_ with hc0 | ⟨g, cur, ha, hb, hg, hs, ht⟩
  · omega
  have ecut : s.cut 1 ((some (s.n : Int)).getD 0).toNat ((some ((vs.length : Int) + 1)).getD (s.n : Int)).toNat = ⟨some ⟨g, s.n, none⟩, 1, s.c - s.n⟩ := by
    simp only [Sl.cut, Option.getD_some, Int.toNat_natCast]
    rw [if_neg (by omega), ha]
    simp only [Option.map_some, Nat.mul_one, add_lit, Nat.zero_add]
    congr 1; omega
  rw [ecut]
  obtain ⟨i, hu, hi, hz, hs1, hbb, hzc⟩ := oneInt
  have hcell := cell_of_row w g s.n cur T_int (0, 0) hg
  have hcell' : w.cell? ⟨g, s.n, none⟩ = some (cur[s.n]'(by omega)) := by rw [hcell]; simp
  have hfr : w.frozen? ⟨g, s.n, none⟩ = false := by simp [World.frozen?, hg]
  have hzz : Builtin.zeroCells (vI 0).cells 1 = #[vI 0] := by simp [Builtin.zeroCells, Value.cells, Array.range]; rfl
  have hblk : s.blk = some g := by simp [Sl.blk, show s.c ≠ 0 by omega, ha]
  have hg' : (w.setCell ⟨g, s.n, none⟩ (vI 0)).heap[g]? = some (.cells (cur.setIfInBounds s.n (vI 0)) T_int (0, 0)) := by
    simp [World.setCell, Array.getElem?_modify, hg]
  refine ⟨.tuple #[], w.setCell ⟨g, s.n, none⟩ (vI 0), ?_, hk _ _ ⟨h.n, h.nc, h.cm, .inr ⟨g, _, ha, hb, hg', by simpa using hs, ?_⟩⟩ ?_ (by simp [World.setCell])⟩
  · have hst : ∀ k : Sem Unit, (Sem.store .plain ⟨g, s.n, none⟩ (vI 0) k).run PP w = k.run PP (w.setCell ⟨g, s.n, none⟩ (vI 0)) := by
      intro k
      simp [Sem.run, hcell', hfr]
    simp [Builtin.clear_, run_underlying hu, zeroValue, typeInfo, hi, hz, hzz, storeCells, store, add_zero', hst, Sem.run]
  · rw [Array.toList_setIfInBounds, List.take_set_of_le (by omega)]
    exact ht
  · rw [hblk]
    exact ⟨rfl, rfl, rfl, by simp [World.setCell], fun k hk hne => Below.heap_setCell _ _ _ _ (fun e => hne (by simp [e]))⟩
/-- The same, told whole. -/
theorem Own.popE {w B e s vs} (h : Own w B e s vs) {hi : Int} (h0 : 0 ≤ hi) (h1 : hi ≤ vs.length) {K : Sl → Prop} (hK : Own w B e ⟨s.a, hi.toNat, s.c⟩ (vs.take hi.toNat) → K ⟨s.a, hi.toNat, s.c⟩) : cutK 1 s none (some hi) K := by
  have hn := h.n
  have hnc := h.nc
  refine ⟨by simp, by simpa using h0, by simp; omega, ?_⟩
  have ea : (s.cut 1 ((none : Option Int).getD 0).toNat ((some hi).getD (s.n : Int)).toNat) = ⟨s.a, hi.toNat, s.c⟩ := by
    simp only [Sl.cut, Option.getD_none, Option.getD_some, Int.toNat_zero, Nat.zero_mul, Nat.sub_zero]
    cases s.a <;> simp [add_zero']
  rw [ea]
  refine hK ⟨by simp; omega, by simp only; omega, h.cm, ?_⟩
  rcases h.at_ with hc | ⟨g, cur, ha, hb, hg, hs, ht⟩
  · exact .inl hc
  · refine .inr ⟨g, cur, ha, hb, hg, hs, ?_⟩
    rw [← ht, List.take_take]
    congr 1
    simp only
    omega
/-! ### Quiet calls: they read, and draw at most -/
def Quiet (f : FuncId) (args : Array Value) (w : World) (v : Value) : Prop := ∀ w', Drew w w' → Calls PP f args w' fun e w'' => e = .returned v ∧ Drew w' w''
theorem Quiet.qcall1 {s : Sh} {f args} {w : World} {r : s.T} (h : Quiet f args w (s.enc r)) {K : s.T → Prop} (hk : K r) : qcall1 s PP f args w K := ⟨r, h, hk⟩
theorem Quiet.call1 {s : Sh} {f args} {w : World} {r : s.T} (h : Quiet f args w (s.enc r)) {K : s.T → World → Prop} (hk : ∀ w', Drew w w' → K r w') : call1 s PP f args w K :=
  (h w (Drew.refl w)).mono fun e w' ⟨he, hw⟩ => ⟨r, he, hk w' hw⟩
theorem Pure.quiet {f args v} (h : Pure f args v) (w : World) : Quiet f args w v := fun w' _ => (h w').mono fun e w'' ⟨he, hw⟩ => ⟨he, by rw [hw]; exact Drew.refl _⟩

end Go.Proofs.Ytmhgjfahgemblaa
