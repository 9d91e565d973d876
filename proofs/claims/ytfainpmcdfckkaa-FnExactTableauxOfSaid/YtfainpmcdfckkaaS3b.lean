/- One more row in a table of tables. -/
import Derived.Test.YtfainpmcdfckkaaS3
namespace Go.Proofs.Ytfainpmcdfckkaa
open Go Go.RowKit
set_option maxRecDepth 100000

/-- The blocks that are no leaves. -/
def foot2 (s : Sl) (G : List Grp) (x : Nat) : Prop := s.blk = some x ∨ ∃ g ∈ G, g.s.blk = some x
def leaf (G : List Grp) (x : Nat) : Prop := ∃ g ∈ G, ∃ r ∈ g.rs, r.blk = some x
theorem foot3_iff {s : Sl} {G : List Grp} {x : Nat} : foot3 s G x ↔ foot2 s G x ∨ leaf G x := by
  constructor
  · rintro (h | ⟨g, hg, h | ⟨r, hr, h⟩⟩)
    · exact .inl (.inl h)
    · exact .inl (.inr ⟨g, hg, h⟩)
    · exact .inr ⟨g, hg, r, hr, h⟩
  · rintro ((h | ⟨g, hg, h⟩) | ⟨g, hg, r, hr, h⟩)
    · exact .inl h
    · exact .inr ⟨g, hg, .inl h⟩
    · exact .inr ⟨g, hg, .inr ⟨r, hr, h⟩⟩
/-- 'tables[i] = append(tables[i], row)', behind the literal. -/
theorem OwnS3.appendAt {w : World} {B : Nat} {s : Sl} {G : List Grp} (h : OwnS3 w B s G) (hB : B ≤ w.heap.size) {i : Int} (h0 : 0 ≤ i) (hi : i < G.length) {g : Grp} (hg : G[i.toNat]? = some g) {r ρ : Sl} {L : List Int} (hr : OwnI w B r L) (hfar : ∀ x, r.blk = some x → ¬ foot3 s G x)
    (hρ : Row w ρ [r.v]) (hn : g.LL.length < 2^38) {K : World → Prop}
    (hk : ∀ w' t', OwnS3 w' B s (G.set i.toNat ⟨t', g.rs ++ [r], g.LL ++ [L]⟩) → Keeps (foot2 s G) w w' → (∀ x, foot2 s (G.set i.toNat ⟨t', g.rs ++ [r], g.LL ++ [L]⟩) x → foot2 s G x ∨ w.heap.size ≤ x) → (∀ x, leaf (G.set i.toNat ⟨t', g.rs ++ [r], g.LL ++ [L]⟩) x → leaf G x ∨ r.blk = some x) → K w') :
    sem1 .sl PP (Builtin.append_ #[T_SSint, T_SSint] T_SSint #[g.s.v, ρ.v]) w fun t' w2 => idxK 1 s i fun a => storeC a t'.v w2 K := by
  have hgm : g ∈ G := List.mem_of_getElem? hg
  have hgo := h.grp g hgm
  have hlt : i.toNat < G.length := by omega
  have hge : G[i.toNat] = g := by rw [List.getElem?_eq_getElem hlt] at hg; exact Option.some.inj hg
  have hsub : ∀ x, g.s.blk = some x → g.foot x := fun x hx => .inl hx
  refine append_row oneSint hgo.out hB hρ (fun v hv => by simp at hv; subst hv; exact One.sl r) (by rw [List.length_map, hgo.len]; simp; omega) ?_
  intro t' w2 ho hgr hnx _
  have k2 := keeps_grown hgr
  have hgo2 : OwnRows w2 B t' (g.rs ++ [r]) (g.LL ++ [L]) := hgo.push hr (fun t ht x h1 h2 => hfar x h2 (.inr ⟨g, hgm, .inr ⟨t, ht, h1⟩⟩)) ho hgr
  have hout2 : Own w2 B T_SSint s (G.map fun g => g.s.v) := h.out.keeps k2 fun x h1 h2 => h.outApt hgm h1 (hsub x h2)
  have hoth : ∀ j (hj : j < G.length), j ≠ i.toNat → OwnRows w2 B G[j].s G[j].rs G[j].LL := fun j hj hne => by
    refine (h.grp _ (List.getElem_mem hj)).keepsF k2 fun x h1 h2 => ?_
    have hp := List.pairwise_iff_getElem.1 h.apt
    rcases Nat.lt_or_gt_of_ne hne with h4 | h4
    · exact hp _ _ hj hlt h4 x h1 (hge ▸ hsub x h2)
    · exact hp _ _ hlt hj h4 x (hge ▸ hsub x h2) h1
  have hnew : ∀ x, Grp.foot ⟨t', g.rs ++ [r], g.LL ++ [L]⟩ x → g.foot x ∨ r.blk = some x ∨ w.heap.size ≤ x := by
    rintro x (hx | ⟨u, hu, hx⟩)
    · rcases hnx x hx with h4 | h4
      · exact .inl (.inl h4)
      · exact .inr (.inr h4)
    · rcases List.mem_append.1 hu with hu | hu
      · exact .inl (.inr ⟨u, hu, hx⟩)
      · simp at hu; subst hu; exact .inr (.inl hx)
  refine Own.put hout2 h0 (by rw [List.length_map]; exact hi) (v := t'.v) ?_
  intro w3 ho3 hg3 _
  refine hk w3 t' (OwnS3.set hout2 hoth h.apt hgo2 (fun j hj hne x h1 h2 => ?_) ho3 hg3) ((k2.mono fun x hx => .inr ⟨g, hgm, hx⟩).trans ((keeps_grown hg3).mono fun x hx => .inl hx)) (fun x hx => ?_) fun x hx => ?_
  · have hp := List.pairwise_iff_getElem.1 h.apt
    rcases hnew x h1 with h4 | h4 | h4
    · rcases Nat.lt_or_gt_of_ne hne with h5 | h5
      · exact hp _ _ hj hlt h5 x h2 (hge ▸ h4)
      · exact hp _ _ hlt hj h5 x (hge ▸ h4) h2
    · exact hfar x h4 (.inr ⟨_, List.getElem_mem hj, h2⟩)
    · have := ((h.grp _ (List.getElem_mem hj)).footLt h2).2; omega
  · rcases hx with hx | ⟨u, hu, hx⟩
    · exact .inl (.inl hx)
    · rcases List.mem_or_eq_of_mem_set hu with hu | rfl
      · exact .inl (.inr ⟨u, hu, hx⟩)
      · exact (hnx x hx).imp (fun h4 => .inr ⟨g, hgm, h4⟩) id
  · obtain ⟨u, hu, q, hq, hx⟩ := hx
    rcases List.mem_or_eq_of_mem_set hu with hu | rfl
    · exact .inl ⟨u, hu, q, hq, hx⟩
    · rcases List.mem_append.1 hq with hq | hq
      · exact .inl ⟨g, hgm, q, hq, hx⟩
      · simp at hq; subst hq; exact .inr hx
theorem vals_set {G : List Grp} {i : Nat} {g : Grp} : vals (G.set i g) = (vals G).set i g.LL := by simp [List.map_set]
theorem lit_sl {w : World} {r : Sl} {K : Sl → World → Prop} (hk : ∀ ρ w', Row w' ρ [r.v] → Below w.heap.size w w' → K ρ w') : sem1 .sl PP (Instr.buildSlice T_SSint 1 #[(0, r.v)]) w K :=
  lit1 oneSint (B := w.heap.size) (Nat.le_refl _) (One.sl r) fun ρ w' h1 h2 _ => hk ρ w' h1.row (below_of_grow h2)
end Go.Proofs.Ytfainpmcdfckkaa
