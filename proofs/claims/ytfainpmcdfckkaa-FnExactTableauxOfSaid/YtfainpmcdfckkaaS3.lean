/- Rows of rows of rows in memory: what such a slice reads, what a call owns of it, appends and stores; the laws' helpers over them. -/
import Derived.Test.YtfainpmcdfckkaaFoot
import Derived.Test.YtfainpmcdfckkaaPair
import Derived.Test.YtfainpmcdfckkaaLawSs
import Derived.Test.YtfainpmcdfckkaaCodeS3
namespace Go.Proofs.Ytfainpmcdfckkaa
open Go Go.RowKit
set_option maxRecDepth 100000

theorem oneS3 : OneT T_SSSint T_SSint Sl.nil.v := oneT_of (by kernel_rfl) (by kernel_rfl) rfl
theorem ne_Sint_SSint : T_Sint ≠ T_SSint := by decide
theorem ne_int_SSint : T_int ≠ T_SSint := by decide

/-- What a slice of tables reads. -/
def RowS3 (w : World) (s : Sl) (G : List (List (List Int))) : Prop := ∃ ts : List Sl, Row w s (ts.map Sl.v) ∧ ts.length = G.length ∧ ∀ (i : Nat) (t : Sl) (LL : List (List Int)), ts[i]? = some t → G[i]? = some LL → RowSS w t LL
theorem RowS3.n {w s G} (h : RowS3 w s G) : s.n = G.length := by obtain ⟨ts, h1, h2, _⟩ := h; have := h1.n; simp_all
theorem RowS3.grow {w w' s G} (h : RowS3 w s G) (hb : Below w.heap.size w w') : RowS3 w' s G := by
  obtain ⟨ts, h1, h2, h3⟩ := h
  exact ⟨ts, h1.grow hb, h2, fun i t LL e1 e2 => (h3 i t LL e1 e2).grow hb⟩
theorem RowS3.heap {w w' s G} (h : RowS3 w s G) (hh : w'.heap = w.heap) : RowS3 w' s G := by
  obtain ⟨ts, h1, h2, h3⟩ := h
  exact ⟨ts, h1.heap hh, h2, fun i t LL e1 e2 => (h3 i t LL e1 e2).heap hh⟩
theorem getD3 {G : List (List (List Int))} {i : Nat} (h : i < G.length) : G.getD i [] = G[i] := by simp [List.getD_eq_getElem?_getD, List.getElem?_eq_getElem h]
theorem RowS3.get {w s G} (h : RowS3 w s G) {i : Int} (h0 : 0 ≤ i) (hi : i < G.length) {K : Sl → Prop} (hk : ∀ t, RowSS w t (G.getD i.toNat []) → K t) : idxK 1 s i fun a => load1 .sl a w K := by
  obtain ⟨ts, h1, h2, h3⟩ := h
  have hlt : i.toNat < ts.length := by omega
  have hlt2 : i.toNat < G.length := by omega
  refine Row.get (sh := .sl) (r := ts[i.toNat]) h1 h0 ?_ (hk _ ?_)
  · rw [List.getElem?_map, List.getElem?_eq_getElem hlt]; rfl
  · rw [getD3 hlt2]; exact h3 i.toNat _ _ (List.getElem?_eq_getElem hlt) (List.getElem?_eq_getElem hlt2)
/-- A table of the call's own. -/
structure Grp where
  s : Sl
  rs : List Sl
  LL : List (List Int)
@[reducible] def Grp.foot (g : Grp) : Nat → Prop := Ytfainpmcdfckkaa.foot g.s g.rs
def Far (g h : Grp) : Prop := ∀ x, g.foot x → ¬ h.foot x
theorem Far.symm {g h : Grp} (hf : Far g h) : Far h g := fun x h1 h2 => hf x h2 h1
structure OwnS3 (w : World) (B : Nat) (s : Sl) (G : List Grp) : Prop where
  out : Own w B T_SSint s (G.map fun g => g.s.v)
  grp : ∀ g ∈ G, OwnRows w B g.s g.rs g.LL
  apt : G.Pairwise Far
def foot3 (s : Sl) (G : List Grp) (x : Nat) : Prop := s.blk = some x ∨ ∃ g ∈ G, g.foot x
@[reducible] def vals (G : List Grp) : List (List (List Int)) := G.map Grp.LL
theorem OwnS3.row {w B s G} (h : OwnS3 w B s G) : RowS3 w s (vals G) := by
  refine ⟨G.map Grp.s, by rw [List.map_map]; exact h.out.row, by simp, fun i t LL e1 e2 => ?_⟩
  rw [List.getElem?_map] at e1 e2
  cases hg : G[i]? with
  | none => rw [hg] at e1; cases e1
  | some g =>
    rw [hg] at e1 e2
    simp only [Option.map_some, Option.some.injEq] at e1 e2
    subst e1 e2
    exact (h.grp g (List.mem_of_getElem? hg)).row
theorem OwnS3.n {w B s G} (h : OwnS3 w B s G) : s.n = G.length := by have := h.out.n; simpa using this
theorem OwnS3.footLt {w B s G} (h : OwnS3 w B s G) {x : Nat} (hx : foot3 s G x) : B ≤ x ∧ x < w.heap.size := by
  rcases hx with hx | ⟨g, hg, hx⟩
  · exact h.out.lt x hx
  · exact (h.grp g hg).footLt hx
theorem OwnS3.keepsF {S : Nat → Prop} {w w' B s G} (h : OwnS3 w B s G) (hk : Keeps S w w') (hd : ∀ x, foot3 s G x → ¬ S x) : OwnS3 w' B s G :=
  ⟨h.out.keeps hk fun x hx => hd x (.inl hx), fun g hg => (h.grp g hg).keepsF hk fun x hx => hd x (.inr ⟨g, hg, hx⟩), h.apt⟩
theorem OwnS3.grow {w w' B s G} (h : OwnS3 w B s G) (hb : Below w.heap.size w w') : OwnS3 w' B s G := ⟨h.out.grow hb, fun g hg => (h.grp g hg).grow hb, h.apt⟩
theorem OwnS3.heap {w w' B s G} (h : OwnS3 w B s G) (hh : w'.heap = w.heap) : OwnS3 w' B s G := ⟨h.out.heap hh, fun g hg => (h.grp g hg).heap hh, h.apt⟩
theorem OwnS3.mono {w B B' s G} (h : OwnS3 w B s G) (hb : B' ≤ B) : OwnS3 w B' s G := ⟨h.out.mono hb, fun g hg => (h.grp g hg).mono hb, h.apt⟩
theorem OwnS3.nil {w B s} (h : Own w B T_SSint s []) : OwnS3 w B s [] := ⟨h, fun g hg => (by cases hg), List.Pairwise.nil⟩
/-- The outer block is no table's. -/
theorem OwnS3.outApt {w B s G} (h : OwnS3 w B s G) {g : Grp} (hg : g ∈ G) {x : Nat} (hx : s.blk = some x) : ¬ g.foot x := fun hf => by
  rcases hf with hf | ⟨r, hr, hf⟩
  · exact (h.out.apt (h.grp g hg).out (Ne.symm ne_Sint_SSint)) x hx hf
  · obtain ⟨L, _, ho⟩ := (h.grp g hg).own hr
    exact (h.out.apt ho (Ne.symm ne_int_SSint)) x hx hf
theorem OwnRows.outer {w B B' s vs t rs LL} (h : Own w B T_SSint s vs) (hr : OwnRows w B' t rs LL) {x : Nat} (hx : s.blk = some x) : ¬ foot t rs x := fun hf => by
  rcases hf with hf | ⟨r, hr', hf⟩
  · exact (h.apt hr.out (Ne.symm ne_Sint_SSint)) x hx hf
  · obtain ⟨L, _, ho⟩ := hr.own hr'
    exact (h.apt ho (Ne.symm ne_int_SSint)) x hx hf
/-- More tables, apart from all others: the outer slice alone was written. -/
theorem OwnS3.pushMany {w w' : World} {B : Nat} {s s' : Sl} {G H : List Grp} (h : OwnS3 w B s G) (hH : ∀ g ∈ H, OwnRows w B g.s g.rs g.LL) (hp : H.Pairwise Far) (hf : ∀ g ∈ G, ∀ k ∈ H, Far g k) (ho : Own w' B T_SSint s' (G.map (fun g => g.s.v) ++ H.map fun g => g.s.v)) (hg : w.grownBy w' s.blk) : OwnS3 w' B s' (G ++ H) := by
  have k := keeps_grown hg
  refine ⟨by simpa using ho, fun g hg' => ?_, List.pairwise_append.2 ⟨h.apt, hp, hf⟩⟩
  rcases List.mem_append.1 hg' with hg' | hg'
  · exact (h.grp g hg').keepsF k fun x h1 h2 => h.outApt hg' h2 h1
  · exact (hH g hg').keepsF k fun x h1 h2 => OwnRows.outer h.out (hH g hg') h2 h1
/-- 'append(tables, table)'. -/
theorem append_s3 {w : World} {B : Nat} {s : Sl} {G : List Grp} (h : OwnS3 w B s G) (hB : B ≤ w.heap.size) {g : Grp} (hg : OwnRows w B g.s g.rs g.LL) (hf : ∀ k ∈ G, Far k g) (hn : G.length < 2^38) {K : Sl → World → Prop}
    (hk : ∀ s' w', OwnS3 w' B s' (G ++ [g]) → w.grownBy w' s.blk → Next w s s' → K s' w') :
    sem1 .sl PP (Instr.buildSlice T_SSSint 1 #[(0, g.s.v)]) w fun t w1 => sem1 .sl PP (Builtin.append_ #[T_SSSint, T_SSSint] T_SSSint #[s.v, t.v]) w1 K :=
  append_one oneS3 h.out hB (One.sl g.s) (by rw [List.length_map]; omega) fun s' w' h1 h2 h3 =>
    hk s' w' (h.pushMany (H := [g]) (fun k hk => by simp at hk; subst hk; exact hg) (by simp) (fun k hk1 j hj => by simp at hj; subst hj; exact hf k hk1) (by simpa using h1) h2) h2 h3
/-- 'append(tables, more...)'. -/
theorem append_many3 {w : World} {B : Nat} {s s2 : Sl} {G H : List Grp} (h : OwnS3 w B s G) (hB : B ≤ w.heap.size) (h2 : OwnS3 w B s2 H) (hf : ∀ g ∈ G, ∀ k ∈ H, Far g k) (hn : G.length + H.length < 2^38) {K : Sl → World → Prop}
    (hk : ∀ s' w', OwnS3 w' B s' (G ++ H) → w.grownBy w' s.blk → Next w s s' → K s' w') :
    sem1 .sl PP (Builtin.append_ #[T_SSSint, T_SSSint] T_SSSint #[s.v, s2.v]) w K := by
  refine append_row oneS3 h.out hB h2.out.row (fun v hv => by obtain ⟨g, _, rfl⟩ := List.mem_map.1 hv; exact One.sl g.s) (by rw [List.length_map, List.length_map]; omega) ?_
  intro s' w' ho hg hn' _
  exact hk s' w' (h.pushMany h2.grp h2.apt hf ho hg) hg hn'
theorem pairwise_set {α : Type} {R : α → α → Prop} (hs : ∀ a b, R a b → R b a) {l : List α} (h : l.Pairwise R) {i : Nat} {x : α} (hx : ∀ j (hj : j < l.length), j ≠ i → R x l[j]) : (l.set i x).Pairwise R := by
  rw [List.pairwise_iff_getElem] at h ⊢
  intro a b ha hb hab
  rw [List.length_set] at ha hb
  rw [List.getElem_set, List.getElem_set]
  split
  · rw [if_neg (by omega)]; exact hx b hb (by omega)
  · split
    · exact hs _ _ (hx a ha (by omega))
    · exact h a b ha hb hab
/-- A table put in a place, whatever became of the table that stood there. -/
theorem OwnS3.set {w w' : World} {B : Nat} {s : Sl} {G : List Grp} {i : Nat} {g : Grp} (hout : Own w B T_SSint s (G.map fun g => g.s.v)) (hgr : ∀ j (hj : j < G.length), j ≠ i → OwnRows w B G[j].s G[j].rs G[j].LL) (hap : G.Pairwise Far) (hg : OwnRows w B g.s g.rs g.LL)
    (hf : ∀ j (hj : j < G.length), j ≠ i → Far g G[j]) (ho : Own w' B T_SSint s ((G.map fun g => g.s.v).set i g.s.v)) (hgb : w.grownBy w' s.blk) : OwnS3 w' B s (G.set i g) := by
  have k := keeps_grown hgb
  refine ⟨by rw [List.map_set]; exact ho, fun u hu => ?_, pairwise_set (fun _ _ h => h.symm) hap hf⟩
  obtain ⟨j, hj, rfl⟩ := List.getElem_of_mem hu
  rw [List.length_set] at hj
  rw [List.getElem_set]
  split
  · exact hg.keepsF k fun x h1 h2 => OwnRows.outer hout hg h2 h1
  · rename_i e
    exact (hgr j hj (by omega)).keepsF k fun x h1 h2 => OwnRows.outer hout (hgr j hj (by omega)) h2 h1
theorem OwnS3.load {w B s G} (h : OwnS3 w B s G) {i : Int} (h0 : 0 ≤ i) (hi : i < G.length) {K : Sl → Prop} (hk : ∀ g, G[i.toNat]? = some g → K g.s) : idxK 1 s i fun a => load1 .sl a w K := by
  have hlt : i.toNat < G.length := by omega
  exact Row.get (sh := .sl) (r := G[i.toNat].s) h.out.row h0 (by rw [List.getElem?_map, List.getElem?_eq_getElem hlt]; rfl) (hk _ (List.getElem?_eq_getElem hlt))
theorem OwnS3.placeT {w B s G} (h : OwnS3 w B s G) {i : Int} (h0 : 0 ≤ i) (hi : i < G.length) {g : Grp} (hg : G[i.toNat]? = some g) {K : Addr → Prop} (hk : ∀ a, s.blk = some a.block → w.cell? a = some g.s.v → K a) : idxK 1 s i K := by
  have hn := h.n
  rcases h.out.at_ with hc | ⟨b, cur, ha, hb, hgg, hs, htk⟩
  · have := h.out.nc; omega
  · have hc0 : s.c ≠ 0 := by have := h.out.nc; omega
    refine ⟨⟨b, 0, none⟩, ha, h0, by omega, ?_⟩
    rw [Nat.mul_one]
    refine hk _ ?_ ?_
    · rw [add_block]; simp [Sl.blk, hc0, ha]
    · obtain ⟨a, ha', hcell⟩ := h.out.row.cell i.toNat g.s.v (by rw [List.getElem?_map, hg]; rfl)
      rw [ha] at ha'; cases ha'; exact hcell

/-! ### The laws' helpers -/
def tot3 (G : List (List (List Int))) : Nat := (G.map fun LL => LL.length + tot LL).sum
theorem tot3_nil : tot3 [] = 0 := rfl
theorem tot3_append (A B : List (List (List Int))) : tot3 (A ++ B) = tot3 A + tot3 B := by simp [tot3]
theorem tot3_take_succ {G : List (List (List Int))} {i : Nat} (h : i < G.length) : tot3 (G.take (i + 1)) = tot3 (G.take i) + ((G.getD i []).length + tot (G.getD i [])) := by
  rw [getD3 h, List.take_succ_eq_append_getElem h, tot3_append]; simp [tot3]
theorem tot3_take_le (G : List (List (List Int))) (i : Nat) : tot3 (G.take i) ≤ tot3 G := by
  have : tot3 G = tot3 (G.take i) + tot3 (G.drop i) := by rw [← tot3_append, List.take_append_drop]
  omega
theorem le_tot3 {G : List (List (List Int))} {LL : List (List Int)} (h : LL ∈ G) : LL.length + tot LL ≤ tot3 G := by
  induction G with
  | nil => cases h
  | cons M G ih =>
    have e : tot3 (M :: G) = (M.length + tot M) + tot3 G := by simp [tot3]
    rw [e]
    rcases List.mem_cons.1 h with rfl | h
    · omega
    · have := ih h; omega
theorem c_eqIntSSS {w : World} {a b : Sl} {G H : List (List (List Int))} (ha : RowS3 w a G) (hb : RowS3 w b H) (hL : G.length < 2^38) (hr : tot3 G < 2^38) : Quiet F.laws_eqIntSSS #[a.v, b.v] w (.bool (decide (G = H))) := by
  intro w1 hd
  have han := ha.n
  have hbn := hb.n
  refine laws_eqIntSSS.calls a b ?_
  rw [laws_eqIntSSS.E_s]
  refine bif_intro (fun h => ?_) (fun h => ?_)
  · have : G.length ≠ H.length := by simp at h; omega
    have : G ≠ H := fun e => this (by rw [e])
    exact ⟨by simp [this], Drew.refl _⟩
  have hlen : G.length = H.length := by simp at h; omega
  refine laws_eqIntSSS.L4_rule _ _ _ _ _ (I := fun i w' => 0 ≤ i ∧ i ≤ G.length ∧ (∀ k, k < i.toNat → G[k]? = H[k]?) ∧ Drew w1 w') (μ := fun i _ => (G.length - i).toNat)
    ⟨by omega, by omega, fun k hk => by simp at hk, Drew.refl _⟩ ?_
  rintro i w' ⟨h0, hi, hall, hd2⟩
  have hh : w'.heap = w.heap := (hd.trans hd2).heap'
  rw [laws_eqIntSSS.B4_s]
  refine bif_dec (fun h3 => ?_) (fun h3 => ?_)
  · have hlt : i.toNat < G.length := by omega
    have hlt2 : i.toNat < H.length := by omega
    have hle := le_tot3 (List.getElem_mem hlt)
    refine RowS3.get (ha.heap hh) h0 (by omega) fun r hr2 => ?_
    refine RowS3.get (hb.heap hh) h0 (by omega) fun r' hr3 => ?_
    rw [getD3 hlt] at hr2
    rw [getD3 hlt2] at hr3
    refine Quiet.qcall1 (s := .bool) (c_eqIntSS hr2 hr3 (by omega) (by omega)) ?_
    refine drew_intro fun w3 hd3 => ?_
    refine bif_intro (fun h4 => ?_) (fun h4 => ?_)
    · have : G ≠ H := fun e => by subst e; simp at h4
      rw [laws_eqIntSSS.R4_s]
      exact ⟨by simp [this], hd2.trans hd3⟩
    · have h4 : G[i.toNat] = H[i.toNat] := by simpa using h4
      refine ⟨i + 1, by rw [w64_succ h0 (by omega)], ⟨by omega, by omega, fun k hk => ?_, hd2.trans hd3⟩, by omega⟩
      by_cases hk2 : k < i.toNat
      · exact hall k hk2
      · have : k = i.toNat := by omega
        subst this
        rw [List.getElem?_eq_getElem hlt, List.getElem?_eq_getElem hlt2, h4]
  · rw [laws_eqIntSSS.A4_0_s]
    have : G = H := by
      apply List.ext_getElem?
      intro k
      by_cases hk : k < G.length
      · exact hall k (by omega)
      · rw [List.getElem?_eq_none (by omega), List.getElem?_eq_none (by omega)]
    exact ⟨by simp [this], hd2⟩
/-- How many numbers. -/
def num3 (G : List (List (List Int))) : Nat := (G.map tot).sum
theorem num3_append (A B : List (List (List Int))) : num3 (A ++ B) = num3 A + num3 B := by simp [num3]
theorem num3_take_succ {G : List (List (List Int))} {i : Nat} (h : i < G.length) : num3 (G.take (i + 1)) = num3 (G.take i) + tot (G.getD i []) := by
  rw [getD3 h, List.take_succ_eq_append_getElem h, num3_append]; simp [num3]
theorem num3_le (G : List (List (List Int))) : num3 G ≤ tot3 G := by
  induction G with
  | nil => exact Nat.le_refl _
  | cons M G ih =>
    have e1 : tot3 (M :: G) = (M.length + tot M) + tot3 G := by simp [tot3]
    have e2 : num3 (M :: G) = tot M + num3 G := by simp [num3]
    omega
theorem num3_take_le (G : List (List (List Int))) (i : Nat) : num3 (G.take i) ≤ num3 G := by
  have : num3 G = num3 (G.take i) + num3 (G.drop i) := by rw [← num3_append, List.take_append_drop]
  omega
/-- The numbers one after the other, from k on, in place i of the tables. -/
def marksAt (k : Int) (G : List (List (List Int))) (i : Nat) : List (List Int) := marksSS (k + num3 (G.take i)) (G.getD i [])
structure Marked (k : Int) (G : List Grp) (H : List Grp) (i : Nat) : Prop where
  len : H.length = G.length
  same : ∀ j g h, G[j]? = some g → H[j]? = some h → h.s = g.s ∧ h.rs = g.rs ∧ h.LL = if j < i then marksAt k (vals G) j else g.LL
theorem Marked.foot {k G H i} (h : Marked k G H i) (s : Sl) (x : Nat) : foot3 s H x ↔ foot3 s G x := by
  have hl := h.len
  constructor
  · rintro (h1 | ⟨u, hu, h1⟩)
    · exact .inl h1
    · obtain ⟨j, hj, rfl⟩ := List.getElem_of_mem hu
      have hs := h.same j G[j] H[j] (List.getElem?_eq_getElem (by omega)) (List.getElem?_eq_getElem hj)
      refine .inr ⟨G[j], List.getElem_mem (by omega), ?_⟩
      rw [Grp.foot, ← hs.1, ← hs.2.1]; exact h1
  · rintro (h1 | ⟨u, hu, h1⟩)
    · exact .inl h1
    · obtain ⟨j, hj, rfl⟩ := List.getElem_of_mem hu
      have hs := h.same j G[j] H[j] (List.getElem?_eq_getElem hj) (List.getElem?_eq_getElem (by omega))
      refine .inr ⟨H[j], List.getElem_mem (by omega), ?_⟩
      rw [Grp.foot, hs.1, hs.2.1]; exact h1
theorem getD_vals {G : List Grp} {i : Nat} (h : i < G.length) : (vals G).getD i [] = G[i].LL := by simp [List.getD_eq_getElem?_getD, h]
theorem c_markIntSSS {w : World} {B : Nat} {a : Sl} {G : List Grp} (ha : OwnS3 w B a G) (hL : G.length < 2^38) (ht : tot3 (vals G) < 2^38) {k : Int} (hk0 : 0 ≤ k) (hk : k < 2^38) :
    Calls PP F.laws_markIntSSS #[a.v, vI k] w fun e w' => ∃ H, e = .returned (vI (k + num3 (vals G))) ∧ OwnS3 w' B a H ∧ Marked k G H G.length ∧ Keeps (foot3 a G) w w' ∧ w'.heap.size = w.heap.size := by
  have han := ha.n
  have hnum := num3_le (vals G)
  refine laws_markIntSSS.calls a k ?_
  rw [laws_markIntSSS.E_s]
  refine laws_markIntSSS.L2_rule _ _ _ _ _ (I := fun m i w' => 0 ≤ i ∧ i ≤ G.length ∧ m = k + num3 ((vals G).take i.toNat) ∧ ∃ H, OwnS3 w' B a H ∧ Marked k G H i.toNat ∧ Keeps (foot3 a G) w w' ∧ w'.heap.size = w.heap.size) (μ := fun _ i _ => (G.length - i).toNat)
    ⟨by omega, by omega, by simp [num3], G, ha, ⟨rfl, fun j g h e1 e2 => by rw [e1] at e2; cases e2; simp⟩, Keeps.refl _ _, rfl⟩ ?_
  rintro m i w' ⟨h0, hi, rfl, H, ho, hm, hkp, hsz⟩
  have hHl := hm.len
  rw [laws_markIntSSS.B2_s, han]
  refine bif_dec (fun h3 => ?_) (fun h3 => ?_)
  · have hlt : i.toNat < H.length := by omega
    have hltG : i.toNat < G.length := by omega
    obtain ⟨s1, s2, s3⟩ := hm.same i.toNat G[i.toNat] H[i.toNat] (List.getElem?_eq_getElem hltG) (List.getElem?_eq_getElem hlt)
    rw [if_neg (by omega)] at s3
    have hle := le_tot3 (G := vals G) (LL := G[i.toNat].LL) (List.mem_map_of_mem (List.getElem_mem hltG))
    have hne := num3_take_le (vals G) i.toNat
    refine ho.load h0 (by omega) fun g hg => ?_
    rw [List.getElem?_eq_getElem hlt] at hg
    cases hg
    have hgo := ho.grp _ (List.getElem_mem hlt)
    rw [s3] at hgo
    refine (c_markIntSS hgo (by omega) (by omega) (k := k + num3 ((vals G).take i.toNat)) (by omega) (by omega)).mono ?_
    rintro e w2 ⟨rfl, ho2, hk2, hz2⟩
    refine ⟨_, rfl, ?_⟩
    have hsub : ∀ x, (∃ r ∈ H[i.toNat].rs, r.blk = some x) → H[i.toNat].foot x := fun x hx => .inr hx
    let g' : Grp := ⟨H[i.toNat].s, H[i.toNat].rs, marksSS (k + num3 ((vals G).take i.toNat)) G[i.toNat].LL⟩
    have hset : OwnS3 w2 B a (H.set i.toNat g') := by
      refine ⟨?_, fun u hu => ?_, ?_⟩
      · rw [List.map_set]
        have := ho.out.keeps hk2 fun x h1 h2 => ho.outApt (List.getElem_mem hlt) h1 (hsub x h2)
        have e : (H.map fun g => g.s.v).set i.toNat g'.s.v = H.map fun g => g.s.v := by
          apply List.ext_getElem?
          intro j
          rw [List.getElem?_set]
          split
          · rename_i e; subst e; simp [g', hlt]
          · rfl
        rw [e]; exact this
      · obtain ⟨j, hj, rfl⟩ := List.getElem_of_mem hu
        rw [List.length_set] at hj
        rw [List.getElem_set]
        split
        · exact ho2
        · rename_i e
          refine (ho.grp _ (List.getElem_mem hj)).keepsF hk2 fun x h1 h2 => ?_
          have hp := List.pairwise_iff_getElem.1 ho.apt
          rcases Nat.lt_or_gt_of_ne e with h4 | h4
          · exact hp _ _ hlt hj h4 x (hsub x h2) h1
          · exact hp _ _ hj hlt h4 x h1 (hsub x h2)
      · refine pairwise_set (fun _ _ h => h.symm) ho.apt fun j hj hne => ?_
        have hp := List.pairwise_iff_getElem.1 ho.apt
        rcases Nat.lt_or_gt_of_ne hne with h4 | h4
        · exact (hp _ _ hj hlt h4).symm
        · exact hp _ _ hlt hj h4
    refine ⟨_, i + 1, by rw [w64_succ h0 (by omega)], ⟨by omega, by omega, ?_, _, hset, ⟨by rw [List.length_set]; exact hHl, fun j g h e1 e2 => ?_⟩, hkp.trans (hk2.mono fun x hx => (hm.foot a x).1 (.inr ⟨_, List.getElem_mem hlt, hsub x hx⟩)), by omega⟩, by omega⟩
    · rw [show (i + 1).toNat = i.toNat + 1 by omega, num3_take_succ (by simpa using hltG), getD_vals hltG]; omega
    · rw [List.getElem?_set] at e2
      by_cases e : i.toNat = j
      · subst e
        rw [if_pos rfl, if_pos hlt] at e2
        simp only [Option.some.injEq] at e2
        subst e2
        rw [List.getElem?_eq_getElem hltG] at e1
        cases e1
        refine ⟨s1, s2, ?_⟩
        rw [if_pos (by omega), marksAt, getD_vals hltG]
      · rw [if_neg e] at e2
        obtain ⟨t1, t2, t3⟩ := hm.same j g h e1 e2
        refine ⟨t1, t2, ?_⟩
        rw [t3]
        by_cases h4 : j < i.toNat
        · rw [if_pos h4, if_pos (by omega)]
        · rw [if_neg h4, if_neg (by omega)]
  · rw [laws_markIntSSS.A2_0_s]
    have e : i.toNat = G.length := by omega
    rw [e] at hm ⊢
    rw [show (vals G).take G.length = vals G by rw [← List.length_map (f := Grp.LL)]; exact List.take_length]
    exact ⟨H, rfl, ho, hm, hkp, hsz⟩
theorem Marked.at_ {k G H} (h : Marked k G H G.length) {i : Nat} (hi : i < G.length) : (vals H).getD i [] = marksSS (k + num3 ((vals G).take i)) ((vals G).getD i []) := by
  have hl := h.len
  have := (h.same i G[i] H[i] (List.getElem?_eq_getElem hi) (List.getElem?_eq_getElem (by omega))).2.2
  rw [getD_vals (by omega), this, if_pos hi]; rfl
theorem c_heldIntSSS {w : World} {a : Sl} {G H : List Grp} {k : Int} (ha : RowS3 w a (vals H)) (hm : Marked k G H G.length) (hL : G.length < 2^38) (ht : tot3 (vals G) < 2^38) (hk0 : 0 ≤ k) (hk : k < 2^38) :
    Calls PP F.laws_heldIntSSS #[a.v, vI k] w fun e w' => e = .returned (vI (k + num3 (vals G))) ∧ Drew w w' := by
  have hHl := hm.len
  have han : a.n = G.length := by have := ha.n; simp at this; omega
  have hnum := num3_le (vals G)
  refine laws_heldIntSSS.calls a k ?_
  rw [laws_heldIntSSS.E_s]
  refine laws_heldIntSSS.L2_rule _ _ _ _ _ (I := fun m i w' => 0 ≤ i ∧ i ≤ G.length ∧ m = k + num3 ((vals G).take i.toNat) ∧ Drew w w') (μ := fun _ i _ => (G.length - i).toNat) ⟨by omega, by omega, by simp [num3], Drew.refl _⟩ ?_
  rintro m i w' ⟨h0, hi, rfl, hd⟩
  rw [laws_heldIntSSS.B2_s, han]
  refine bif_dec (fun h3 => ?_) (fun h3 => ?_)
  · have hlt : i.toNat < G.length := by omega
    have hle := le_tot3 (G := vals G) (LL := G[i.toNat].LL) (List.mem_map_of_mem (List.getElem_mem hlt))
    have hne := num3_take_le (vals G) (i.toNat + 1)
    rw [num3_take_succ (by simpa using hlt), getD_vals hlt] at hne
    refine RowS3.get (ha.heap hd.heap') h0 (by simp; omega) fun r hr => ?_
    rw [hm.at_ hlt, getD_vals hlt] at hr
    refine Quiet.call1 (s := .int .i64) (c_heldIntSS hr (by omega) (by omega) (by omega) (by omega)) ?_
    intro w2 hd2
    refine bif_dec (fun h => by omega) (fun _ => ?_)
    refine ⟨_, i + 1, by rw [w64_succ h0 (by omega)], ⟨by omega, by omega, ?_, hd.trans hd2⟩, by omega⟩
    rw [show (i + 1).toNat = i.toNat + 1 by omega, num3_take_succ (by simpa using hlt), getD_vals hlt]; omega
  · rw [laws_heldIntSSS.A2_0_s]
    have e : i.toNat = G.length := by omega
    rw [e, show (vals G).take G.length = vals G by rw [← List.length_map (f := Grp.LL)]; exact List.take_length]
    exact ⟨rfl, hd⟩
end Go.Proofs.Ytfainpmcdfckkaa
