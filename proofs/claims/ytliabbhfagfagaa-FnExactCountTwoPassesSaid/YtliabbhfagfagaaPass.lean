/- What comes out of a stack: both texts do the same. -/
import Derived.Test.YtliabbhfagfagaaDown
import Derived.Test.YtliabbhfagfagaaLaw2
import Derived.Test.YtliabbhfagfagaaSs
import Derived.Test.YtliabbhfagfagaaPassMath
namespace Go.Proofs.Ytliabbhfagfagaa
open Go Go.RowKit
set_option maxRecDepth 100000

structure St (w : World) (B : Nat) (out stack : Sl) (o st : List Int) : Prop where
  apt : Apt out stack
  out : OwnI w B out o
  st : OwnI w B stack st.reverse
theorem St.heap {w w' B out stack o st} (h : St w B out stack o st) (hh : w'.heap = w.heap) : St w' B out stack o st := ⟨h.apt, h.out.heap hh, h.st.heap hh⟩
theorem St.n {w B out stack o st} (h : St w B out stack o st) : stack.n = st.length := by have := h.st.n; simpa using this
theorem st_begin {w : World} {B : Nat} (hB : B ≤ w.heap.size) {K : Sl → Sl → World → Prop} (h : ∀ s t w', St w' B s t [] [] → Below B w w' → K s t w') :
    sem1 .sl PP (Instr.buildSlice T_Sint 0 #[]) w fun s w1 => sem1 .sl PP (Instr.buildSlice T_Sint 0 #[]) w1 fun t w2 => K s t w2 := by
  refine lit0 oneInt (B := B) hB ?_
  intro s w1 h0 hg0 hc0
  refine lit0 oneInt (B := B) (by have := hg0.size; omega) ?_
  intro t w2 h1 hg1 hc1
  exact h s t w2 ⟨fun g hg => by simp [Sl.blk, hc0] at hg, h0.kept hg1 (fun _ _ => by simp), h1⟩ (((Below.refl _ _).grown hg0 hB (by simp)).grown hg1 (by have := hg0.size; omega) (by simp))
theorem St.pop {w w' B out stack out' stack' o st x} (h : St w B out stack o (x :: st)) (ht : Own w B T_int stack' ((((x :: st).reverse).map vI).take st.length)) (hb : stack'.blk = stack.blk)
    (ho : OwnI w' B out' (o ++ [x])) (hg : w.grownBy w' out.blk) (hn : Next w out out') : St w' B out' stack' (o ++ [x]) st := by
  refine ⟨?_, ho, ?_⟩
  · exact Apt.next (fun g e1 e2 => h.apt g e1 (hb ▸ e2)) hn (fun g hg' => (ht.lt g hg').2)
  · have h1 : ((((x :: st).reverse).map vI).take st.length) = st.reverse.map vI := by
      rw [← List.map_take]; simp
    rw [h1] at ht
    exact ht.kept hg (fun g hg' e => h.apt g e (hb ▸ hg'))
theorem St.push {w w' B out stack stack' o st v} (h : St w B out stack o st) (ht : OwnI w' B stack' (st.reverse ++ [v])) (hg : w.grownBy w' stack.blk) (hn : Next w stack stack') : St w' B out stack' o (v :: st) := by
  refine ⟨?_, h.out.kept hg (fun g hg' e => h.apt g hg' e), by simpa using ht⟩
  exact (Apt.next h.apt.symm hn (fun g hg' => (h.out.lt g hg').2)).symm
theorem last_rev (x : Int) (r : List Int) : (x :: r).reverse.getD r.length 0 = x := by simp [List.getD_eq_getElem?_getD]
theorem runW_take {L : List Int} {k : Nat} (hk : k < L.length) {o st : List Int} (h : runW (L.take k) = (o, st)) : runW (L.take (k + 1)) = stpW (o, st) (L.getD k 0) := by
  have : L.take (k + 1) = L.take k ++ [L.getD k 0] := by rw [getD_eq hk]; simp
  rw [this, runW_snoc, h]

theorem c_stackPass {w : World} {a : Sl} {L : List Int} (ha : RowI w a L) (hL : L.length < 2^38) :
    Calls PP F.impl_stackPass #[a.v] w fun e w' => ∃ s : Sl, e = .returned s.v ∧ OwnI w' w.heap.size s (passV L) ∧ Below w.heap.size w w' := by
  have han : a.n = L.length := by have := ha.n; simpa using this
  refine impl_stackPass.calls a ?_
  rw [impl_stackPass.E_s]
  refine st_begin (B := w.heap.size) (Nat.le_refl _) ?_
  intro s0 t0 w1 hst hb1
  refine impl_stackPass.L3_rule _ _ _ _ _ _ _ (I := fun out stack k w' => 0 ≤ k ∧ k ≤ L.length ∧ ∃ o st, St w' w.heap.size out stack o st ∧ Below w.heap.size w w' ∧ runW (L.take k.toNat) = (o, st) ∧ o.length + st.length = k.toNat)
    (μ := fun _ _ k _ => (L.length - k).toNat) ⟨by omega, by omega, [], [], hst, hb1, rfl, rfl⟩ ?_
  rintro out stack k w' ⟨h0, hk, o, st, hs, hb, hf, hlen⟩
  rw [impl_stackPass.B3_s]
  refine bif_dec (fun h3 => ?_) (fun h3 => ?_)
  · refine RowI.get (ha.grow hb) h0 (by omega) ?_
    have hkl : k.toNat < L.length := by omega
    refine impl_stackPass.L5_rule _ _ _ _ _ _ _ _ (I := fun out2 stack2 w2 => ∃ o2 st2, St w2 w.heap.size out2 stack2 o2 st2 ∧ Below w.heap.size w w2 ∧ popW (L.getD k.toNat 0) o2 st2 = popW (L.getD k.toNat 0) o st ∧ o2.length + st2.length = k.toNat) (μ := fun _ s _ => s.n)
      ⟨o, st, hs, hb, rfl, hlen⟩ ?_
    rintro out2 stack2 w2 ⟨o2, st2, hs2, hb2, hp, hl2⟩
    have hn := hs2.n
    have fin : popW (L.getD k.toNat 0) o2 st2 = (o2, st2) → impl_stackPass.q11 std (fun e2 w2 => ∃ out_3_n stack_4_n t11_n, e2 = impl_stackPass.emb3 out_3_n stack_4_n a (a.n : Int) t11_n ∧
        (0 ≤ t11_n ∧ t11_n ≤ L.length ∧ ∃ o st, St w2 w.heap.size out_3_n stack_4_n o st ∧ Below w.heap.size w w2 ∧ runW (L.take t11_n.toNat) = (o, st) ∧ o.length + st.length = t11_n.toNat) ∧ (L.length - t11_n).toNat < (L.length - k).toNat)
        (impl_stackPass.q5 std fun e w' => ∃ s : Sl, e = .returned s.v ∧ OwnI w' w.heap.size s (passV L) ∧ Below w.heap.size w w') (.exit 2) (impl_stackPass.x2 out2 stack2 (L.getD k.toNat 0) a (a.n : Int) k) w2 := by
      intro hpp
      rw [impl_stackPass.A5_2_s]
      refine append_int hs2.st hb2.size (by simp; omega) ?_
      intro s' w3 h1 h2 h3
      refine ⟨out2, s', k + 1, by rw [w64_succ h0 (by omega)], ⟨by omega, by omega, o2, L.getD k.toNat 0 :: st2, hs2.push h1 h2 h3, hb2.grown h2 hb2.size (fun g hg => (hs2.st.lt g hg).1), ?_, by simp; omega⟩, by omega⟩
      rw [show (k + 1).toNat = k.toNat + 1 by omega, runW_take hkl hf, stpW, ← hp, hpp]
    rw [impl_stackPass.B5_s]
    refine bif_dec (fun h4 => ?_) (fun h4 => ?_)
    · obtain ⟨x, r, rfl⟩ : ∃ x r, st2 = x :: r := by
        cases st2 with
        | nil => simp at hn; omega
        | cons x r => exact ⟨x, r, rfl⟩
      have hn1 : w64 ((stack2.n : Int) - 1) = (r.length : Int) := by
        simp only [List.length_cons] at hn hl2
        rw [w64_id (by omega) (by omega)]; omega
      rw [hn1]
      refine RowI.get hs2.st.row (by omega) (by simp; omega) ?_
      rw [Int.toNat_natCast, last_rev]
      refine bif_dec (fun h5 => ?_) (fun h5 => ?_)
      · refine drew_intro fun w3 hd => ?_
        have hs3 := hs2.heap hd.heap'
        refine RowI.place hs3.st.row (by omega) (by simp; omega) fun a2 ha2 => ?_
        rw [Int.toNat_natCast, last_rev] at ha2
        refine Own.pop hs3.st (by omega) (by simp; omega) ?_
        intro t ht hbt
        rw [Int.toNat_natCast] at ht
        refine load_int ha2 ?_
        have hb3 := hb2.trans (hd.below _)
        simp only [List.length_cons] at hl2
        refine append_int hs3.out hb3.size (by omega) ?_
        intro s' w4 h1 h2 h3
        refine ⟨s', t, rfl, ⟨o2 ++ [x], r, hs3.pop ht hbt h1 h2 h3, hb3.grown h2 hb3.size (fun g hg => (hs3.out.lt g hg).1), ?_, by simp; omega⟩, ?_⟩
        · rw [← hp]; conv => rhs; rw [popW, if_pos h5]
        · have := ht.n
          simp only [List.length_take, List.length_map, List.length_reverse, List.length_cons] at this hn
          omega
      · exact fin (by rw [popW, if_neg h5])
    · have : st2 = [] := List.eq_nil_of_length_eq_zero (by omega)
      subst this
      exact fin rfl
  · rw [impl_stackPass.A3_0_s]
    have e : k.toNat = L.length := by omega
    rw [e, List.take_length] at hf
    refine (c_Reverse hs.st (by simp; omega)).mono ?_
    rintro e w2 ⟨rfl, hs2, hg2, _⟩
    refine ⟨rfl, ?_⟩
    rw [List.reverse_reverse] at hs2
    have hb2 := hb.grown hg2 hb.size (fun g hg => (hs.st.lt g hg).1)
    have ho2 : OwnI w2 w.heap.size out o := hs.out.kept hg2 (fun g hg' e => hs.apt g hg' e)
    refine append_row oneInt ho2 hb2.size hs2.row (fun v hv => by obtain ⟨x, _, rfl⟩ := List.mem_map.1 hv; exact One.int x) (by simp; omega) ?_
    intro s w3 h1 h2 _ _
    refine ⟨s, rfl, ?_, hb2.grown h2 hb2.size (fun g hg => (ho2.lt g hg).1)⟩
    rw [passV, hf]
    simpa [OwnI] using h1

theorem c_l21Pass {w : World} {a : Sl} {L : List Int} (ha : RowI w a L) (hL : L.length < 2^38) :
    Calls PP F.spec_l21Pass #[a.v] w fun e w' => ∃ s : Sl, e = .returned s.v ∧ OwnI w' w.heap.size s (passV L) ∧ Below w.heap.size w w' := by
  have han : a.n = L.length := by have := ha.n; simpa using this
  refine spec_l21Pass.calls a ?_
  rw [spec_l21Pass.E_s]
  refine st_begin (B := w.heap.size) (Nat.le_refl _) ?_
  intro s0 t0 w1 hst hb1
  refine spec_l21Pass.L4_rule _ _ _ _ _ _ (I := fun out stack k w' => 0 ≤ k ∧ k ≤ L.length ∧ ∃ o st, St w' w.heap.size out stack o st ∧ Below w.heap.size w w' ∧ runW (L.take k.toNat) = (o, st) ∧ o.length + st.length = k.toNat)
    (μ := fun _ _ k _ => (L.length - k).toNat) ⟨by omega, by omega, [], [], hst, hb1, rfl, rfl⟩ ?_
  rintro out stack k w' ⟨h0, hk, o, st, hs, hb, hf, hlen⟩
  rw [spec_l21Pass.B4_s]
  refine bif_dec (fun h3 => ?_) (fun h3 => ?_)
  · have hkl : k.toNat < L.length := by omega
    refine spec_l21Pass.L6_rule _ _ _ _ _ _ (I := fun out2 stack2 w2 => ∃ o2 st2, St w2 w.heap.size out2 stack2 o2 st2 ∧ Below w.heap.size w w2 ∧ popW (L.getD k.toNat 0) o2 st2 = popW (L.getD k.toNat 0) o st ∧ o2.length + st2.length = k.toNat) (μ := fun _ s _ => s.n)
      ⟨o, st, hs, hb, rfl, hlen⟩ ?_
    rintro out2 stack2 w2 ⟨o2, st2, hs2, hb2, hp, hl2⟩
    have hn := hs2.n
    have fin : ∀ w3, Drew w2 w3 → popW (L.getD k.toNat 0) o2 st2 = (o2, st2) → spec_l21Pass.q9 std (fun e2 w2 => ∃ out_3_n stack_4_n k_5_n, e2 = spec_l21Pass.emb4 a out_3_n stack_4_n k_5_n ∧
        (0 ≤ k_5_n ∧ k_5_n ≤ L.length ∧ ∃ o st, St w2 w.heap.size out_3_n stack_4_n o st ∧ Below w.heap.size w w2 ∧ runW (L.take k_5_n.toNat) = (o, st) ∧ o.length + st.length = k_5_n.toNat) ∧ (L.length - k_5_n).toNat < (L.length - k).toNat)
        (spec_l21Pass.q5 std fun e w' => ∃ s : Sl, e = .returned s.v ∧ OwnI w' w.heap.size s (passV L) ∧ Below w.heap.size w w') (.exit 2) (spec_l21Pass.x2 a out2 stack2 k) w3 := by
      intro w3 hd hpp
      have hs3 := hs2.heap hd.heap'
      have hb3 := hb2.trans (hd.below _)
      rw [spec_l21Pass.A6_2_s]
      refine RowI.get (ha.grow hb3) h0 (by omega) ?_
      refine append_int hs3.st hb3.size (by simp; omega) ?_
      intro s' w4 h1 h2 h3
      refine ⟨out2, s', k + 1, by rw [w64_succ h0 (by omega)], ⟨by omega, by omega, o2, L.getD k.toNat 0 :: st2, hs3.push h1 h2 h3, hb3.grown h2 hb3.size (fun g hg => (hs3.st.lt g hg).1), ?_, by simp; omega⟩, by omega⟩
      rw [show (k + 1).toNat = k.toNat + 1 by omega, runW_take hkl hf, stpW, ← hp, hpp]
    rw [spec_l21Pass.B6_s]
    refine bif_dec (fun h4 => ?_) (fun h4 => ?_)
    · obtain ⟨x, r, rfl⟩ : ∃ x r, st2 = x :: r := by
        cases st2 with
        | nil => simp at hn; omega
        | cons x r => exact ⟨x, r, rfl⟩
      have hn1 : w64 ((stack2.n : Int) - 1) = (r.length : Int) := by
        simp only [List.length_cons] at hn hl2
        rw [w64_id (by omega) (by omega)]; omega
      rw [hn1]
      refine RowI.get hs2.st.row (by omega) (by simp; omega) ?_
      rw [Int.toNat_natCast, last_rev]
      refine RowI.get (ha.grow hb2) h0 (by omega) ?_
      refine drew_intro fun w3 hd => ?_
      refine bif_dec (fun h5 => ?_) (fun h5 => ?_)
      · have hs3 := hs2.heap hd.heap'
        refine RowI.get hs3.st.row (by omega) (by simp; omega) ?_
        rw [Int.toNat_natCast, last_rev]
        have hb3 := hb2.trans (hd.below _)
        simp only [List.length_cons] at hl2
        refine append_int hs3.out hb3.size (by omega) ?_
        intro s' w4 h1 h2 h3
        refine Own.pop hs3.st (by omega) (by simp; omega) ?_
        intro t ht hbt
        rw [Int.toNat_natCast] at ht
        refine ⟨s', t, rfl, ⟨o2 ++ [x], r, hs3.pop ht hbt h1 h2 h3, hb3.grown h2 hb3.size (fun g hg => (hs3.out.lt g hg).1), ?_, by simp; omega⟩, ?_⟩
        · rw [← hp]; conv => rhs; rw [popW, if_pos h5]
        · have := ht.n
          simp only [List.length_take, List.length_map, List.length_reverse, List.length_cons] at this hn
          omega
      · exact fin w3 hd (by rw [popW, if_neg h5])
    · have : st2 = [] := List.eq_nil_of_length_eq_zero (by omega)
      subst this
      exact drew_intro fun w3 hd => fin w3 hd rfl
  · rw [spec_l21Pass.A4_0_s]
    have e : k.toNat = L.length := by omega
    rw [e, List.take_length] at hf
    refine (c_l3Reverse hs.st.row (by simp; omega)).mono ?_
    rintro e w2 ⟨t, rfl, hs2, hb2⟩
    refine ⟨_, rfl, ?_⟩
    rw [List.reverse_reverse] at hs2
    have hb3 := hb.trans (hb2.mono hb.size)
    have ho2 : OwnI w2 w.heap.size out o := hs.out.grow hb2
    refine append_row oneInt ho2 hb3.size hs2.row (fun v hv => by obtain ⟨x, _, rfl⟩ := List.mem_map.1 hv; exact One.int x) (by simp; omega) ?_
    intro s w3 h1 h2 _ _
    refine ⟨s, rfl, ?_, hb3.grown h2 hb3.size (fun g hg => (ho2.lt g hg).1)⟩
    rw [passV, hf]
    simpa [OwnI] using h1
end Go.Proofs.Ytliabbhfagfagaa
