/- The texts Draw, OpenB, CodeGR, CodePk1, CodeDb, Dr, CodeBa, CodeFs, FnVal, FuS, FuSc in one (gmerge.py). -/
import Derived.Laws.Tables
import Derived.ChangeSlices
import Derived.WideShapes
import Derived.Test.YteplokddaebbeaaGreatRuM1
/- The draws: a cursor over the bytes handed in, numbers below a bound, permutations, and lists that are permutations mostly. -/
namespace Go.Proofs.YteplokddaebbeaaGreat
open Go Go.RowKit
set_option maxRecDepth 100000

/-! ### Bytes -/
@[reducible] def vB (n : Int) : Value := .int .u8 n
/-- A row of bytes. -/
@[reducible] def RowB (w : World) (s : Sl) (L : List Int) : Prop := Row w s (L.map vB)
theorem RowB.get {w s L} (h : RowB w s L) {i : Int} (h0 : 0 ≤ i) (hi : i < L.length) {K : Int → Prop} (hk : K (L.getD i.toNat 0)) : idxK 1 s i fun a => load1 (.int .u8) a w K := by
  have hlt : i.toNat < L.length := by omega
  refine Row.get (sh := .int .u8) (r := L.getD i.toNat 0) h h0 ?_ hk
  simp [List.getD_eq_getElem?_getD, List.getElem?_eq_getElem hlt]
theorem wrap_and (a : Int) (m : Nat) (hm : m < 2^63) : 0 ≤ bAnd .i64 a m ∧ bAnd .i64 a m ≤ m := by
  unfold bAnd
  have h : (BitVec.ofInt IntKind.i64.bits a &&& BitVec.ofInt IntKind.i64.bits (m : Int)).toNat ≤ m := by
    rw [BitVec.toNat_and]
    refine Nat.le_trans Nat.and_le_right ?_
    simp [IntKind.bits]
    exact Nat.mod_le _ _
  have e : IntKind.i64.wrap (((BitVec.ofInt IntKind.i64.bits a &&& BitVec.ofInt IntKind.i64.bits (m : Int)).toNat : Nat) : Int) = ((BitVec.ofInt IntKind.i64.bits a &&& BitVec.ofInt IntKind.i64.bits (m : Int)).toNat : Nat) := w64_id (by omega) (by omega)
  rw [e]
  omega

/-! ### The cursor -/
structure Cur (w0 w : World) (c : Addr) : Prop where
  ex : ∃ (b : Sl) (L : List Int) (g : Nat) (i h : Int), c = ⟨g, 0, none⟩ ∧ RowB w0 b L ∧ L.length < 2^60 ∧ w0.heap.size ≤ g ∧ w.heap[g]? = some (.cells #[b.v, vI i, vI h] T_spec_l1Cur (0, 0)) ∧ 0 ≤ i ∧ i ≤ L.length
  below : Below w0.heap.size w0 w
/-- The cursor's block. -/
def CS (c : Addr) (k : Nat) : Prop := k = c.block
theorem Cur.lt {w0 w c} (h : Cur w0 w c) : w0.heap.size ≤ c.block ∧ c.block < w.heap.size := by
  obtain ⟨b, L, g, i, hh, rfl, _, _, h1, h2, _⟩ := h.ex
  exact ⟨h1, (Array.getElem?_eq_some_iff.1 h2).1⟩
theorem Cur.keeps {w0 w w' c} {S : Nat → Prop} (h : Cur w0 w c) (hk : Keeps S w w') (hS : ∀ k, S k → w0.heap.size ≤ k ∧ k ≠ c.block) : Cur w0 w' c := by
  have hl := h.lt
  refine ⟨?_, h.below.trans (hk.below (fun k hk => (hS k hk).1) h.below.size)⟩
  obtain ⟨b, L, g, i, hh, rfl, h1, h2, h3, h4, h5⟩ := h.ex
  refine ⟨b, L, g, i, hh, rfl, h1, h2, h3, ?_, h5⟩
  rw [hk.block g hl.2 (fun hs => (hS g hs).2 rfl)]; exact h4
theorem Cur.grow {w0 w w' c} (h : Cur w0 w c) (hb : Below w.heap.size w w') : Cur w0 w' c :=
  h.keeps (keeps_grown (grow_of_below hb)) (fun k hk => by cases hk)
theorem keeps_below {w w' : World} (hb : Below w.heap.size w w') (S : Nat → Prop) : Keeps S w w' := (keeps_grown (grow_of_below hb)).mono (fun k e => by cases e)
/-- What was made behind the cursor stays while the cursor moves. -/
theorem Own.curs {w w' B e s vs c} (h : Own w B e s vs) (hk : Keeps (CS c) w w') (hc : c.block < B) : Own w' B e s vs :=
  h.keeps hk fun g hg hs => by have := (h.lt g hg).1; unfold CS at hs; omega
theorem cur_load {w : World} {g k : Nat} {cs : Array Value} {t : TypeId} (hg : w.heap[g]? = some (.cells cs t (0, 0))) {s : Sh} {r : s.T} (hc : cs[k]? = some (s.enc r)) {K : s.T → Prop} (hk : K r) : load1 s ((⟨g, 0, none⟩ : Addr).add k) w K := by
  refine ⟨r, ?_, hk⟩
  rw [add_lit, cell_of_row w g (0 + k) cs t (0, 0) hg, Nat.zero_add]
  exact hc
theorem cur_store {w : World} {g k : Nat} {cs : Array Value} {t : TypeId} (hg : w.heap[g]? = some (.cells cs t (0, 0))) (hk : k < cs.size) {v : Value} {K : World → Prop}
    (h : ∀ w', w'.heap[g]? = some (.cells (cs.setIfInBounds k v) t (0, 0)) → Keeps (fun x => x = g) w w' → w'.heap.size = w.heap.size → K w') : storeC ((⟨g, 0, none⟩ : Addr).add k) v w K := by
  rw [add_lit, Nat.zero_add]
  have hcell := cell_of_row w g k cs t (0, 0) hg
  refine ⟨⟨cs[k], by rw [hcell]; simp [hk]⟩, by simp [World.frozen?, hg], h _ ?_ ⟨rfl, rfl, rfl, by simp [World.setCell], fun x hx hne => Below.heap_setCell _ _ _ _ (fun e => hne e)⟩ (by simp [World.setCell])⟩
  simp [World.setCell, Array.getElem?_modify, hg]

theorem c_l1New {w : World} {a : Sl} {L : List Int} (ha : RowB w a L) (hL : L.length < 2^60) :
    Calls PP F.spec_l1New #[a.v] w fun e w' => ∃ c, e = .returned (.pointer (some c)) ∧ Cur w w' c := by
  have han : a.n = L.length := by have := ha.n; simpa using this
  refine spec_l1New.calls a ?_
  rw [spec_l1New.E_s]
  have fin : ∀ h R, (∀ c w', Cur w w' c → R (.returned (.pointer (some c))) w') → spec_l1New.q1 std R (.exit 0) (spec_l1New.x0 a h) w := by
    intro h R hR
    rw [spec_l1New.A3_0_s]
    refine ⟨_, fun w => run_build w _ _ #[a.v, vI 0, vI h] (by kernel_rfl), ?_⟩
    refine hR _ _ ⟨⟨a, L, w.heap.size, 0, h, rfl, ha, hL, Nat.le_refl _, heap_alloc_new w _, by omega, by omega⟩, below_of_grow (World.grownBy_alloc w _ none)⟩
  refine spec_l1New.L3_rule _ _ _ _ _ (I := fun h i w' => w' = w ∧ 0 ≤ i ∧ i ≤ L.length) (μ := fun _ i _ => (L.length - i).toNat) ⟨rfl, by omega, by omega⟩ ?_
  rintro h i w' ⟨rfl, h0, hi⟩
  rw [spec_l1New.B3_s, han]
  refine bif_dec (fun h3 => ?_) (fun h3 => ?_)
  · refine bif_dec (fun h4 => ?_) (fun h4 => ?_)
    · refine RowB.get ha h0 (by omega) ?_
      exact ⟨_, i + 1, by rw [w64_succ h0 (by omega)], ⟨rfl, by omega, by omega⟩, by omega⟩
    · exact fin _ _ (fun c w' hc => ⟨c, rfl, hc⟩)
  · exact fin _ _ (fun c w' hc => ⟨c, rfl, hc⟩)

theorem c_l1Byte {w0 w : World} {c : Addr} (hc : Cur w0 w c) :
    Calls PP F.spec_l1Byte #[.pointer (some c)] w fun e w' => ∃ x : Int, e = .returned (vI x) ∧ 0 ≤ x ∧ x ≤ 255 ∧ Cur w0 w' c ∧ Keeps (CS c) w w' := by
  have hlt := hc.lt
  have hbel := hc.below
  obtain ⟨b, L, g, i, h, rfl, hb, hL, hg, hcell, hi0, hi⟩ := hc.ex
  have hbn : b.n = L.length := by have := hb.n; simpa using this
  refine spec_l1Byte.calls ⟨g, 0, none⟩ ?_
  rw [spec_l1Byte.E_s]
  refine cur_load hcell (s := .int .i64) (r := h) (by rfl) ?_
  refine cur_store hcell (by simp) ?_
  intro w1 hg1 hk1 hs1
  have hb1 : Below w0.heap.size w0 w1 := hbel.trans (hk1.below (fun k e => by rw [e]; exact hg) hbel.size)
  generalize w64 (w64 (h * 6364136223846793005) + 1442695040888963407) = h' at hg1
  have hg1 : w1.heap[g]? = some (.cells #[b.v, vI i, vI h'] T_spec_l1Cur (0, 0)) := hg1
  refine cur_load hg1 (s := .int .i64) (r := h') (by rfl) ?_
  refine ⟨by omega, ?_⟩
  refine cur_load hg1 (s := .int .i64) (r := h') (by rfl) ?_
  refine ⟨by omega, ?_⟩
  refine drew_intro fun w4 hd4 => ?_
  have hg4 : w4.heap[g]? = some (.cells #[b.v, vI i, vI h'] T_spec_l1Cur (0, 0)) := by rw [hd4.heap']; exact hg1
  refine cur_load hg4 (s := .int .i64) (r := i) (by rfl) ?_
  refine cur_load hg4 (s := .sl) (r := b) (by rfl) ?_
  refine drew_intro fun w8 hd8 => ?_
  have hd18 := hd4.trans hd8
  have hg8 : w8.heap[g]? = some (.cells #[b.v, vI i, vI h'] T_spec_l1Cur (0, 0)) := by rw [hd18.heap']; exact hg1
  have hb8 : Below w0.heap.size w0 w8 := hb1.trans (hd18.below _)
  have hk8 : Keeps (CS ⟨g, 0, none⟩) w w8 := (hk1.mono fun k e => e).trans (hd18.keeps _)
  have hm := fun a => wrap_and a 255 (by decide)
  rw [hbn]
  refine bif_dec (fun h3 => ?_) (fun h3 => ?_)
  · refine cur_load hg8 (s := .sl) (r := b) (by rfl) ?_
    refine cur_load hg8 (s := .int .i64) (r := i) (by rfl) ?_
    refine RowB.get (hb.grow hb8) hi0 (by omega) ?_
    refine drew_intro fun w13 hd13 => ?_
    have hg13 : w13.heap[g]? = some (.cells #[b.v, vI i, vI h'] T_spec_l1Cur (0, 0)) := by rw [hd13.heap']; exact hg8
    refine cur_load hg13 (s := .int .i64) (r := i) (by rfl) ?_
    refine cur_store hg13 (by simp) ?_
    intro w15 hg15 hk15 hs15
    rw [w64_succ hi0 (by omega)] at hg15
    rw [spec_l1Byte.J6_s]
    have hb13 := hb8.trans (hd13.below w0.heap.size)
    refine ⟨_, rfl, (hm _).1, (hm _).2, ⟨⟨b, L, g, i + 1, h', rfl, hb, hL, hg, hg15, by omega, by omega⟩, hb13.trans (hk15.below (fun k e => by rw [e]; exact hg) hb13.size)⟩, (hk8.trans (hd13.keeps _)).trans (hk15.mono fun k e => e)⟩
  · rw [spec_l1Byte.J6_s]
    exact ⟨_, rfl, (hm _).1, (hm _).2, ⟨⟨b, L, g, i, h', rfl, hb, hL, hg, hg8, hi0, hi⟩, hb8⟩, hk8⟩

theorem c_l1Below {w0 w : World} {c : Addr} (hc : Cur w0 w c) {n : Int} (hn : n ≤ 256) :
    Calls PP F.spec_l1Below #[.pointer (some c), vI n] w fun e w' => ∃ x : Int, e = .returned (vI x) ∧ 0 ≤ x ∧ (x < n ∨ x = 0) ∧ Cur w0 w' c ∧ Keeps (CS c) w w' := by
  refine spec_l1Below.calls c n ?_
  rw [spec_l1Below.E_s]
  refine bif_dec (fun h => ?_) (fun h => ?_)
  · exact ⟨0, rfl, by omega, .inr rfl, hc, Keeps.refl _ _⟩
  refine bif_dec (fun h2 => ?_) (fun h2 => absurd hn h2)
  refine (c_l1Byte hc).mono ?_
  rintro e w1 ⟨x, rfl, h0, h1, hc1, hk1⟩
  refine ⟨x, rfl, by omega, ?_⟩
  have e1 : x.tmod n = x % n := Int.tmod_eq_emod_of_nonneg h0
  refine ⟨_, rfl, ?_, .inl ?_, hc1, hk1⟩
  · rw [e1]; exact Int.emod_nonneg _ (by omega)
  · rw [e1]; exact Int.emod_lt_of_pos _ (by omega)
theorem c_l1Once {w0 w : World} {c : Addr} (hc : Cur w0 w c) {n : Int} (hn : n ≤ 256) :
    Calls PP F.spec_l1Once #[.pointer (some c), vI n] w fun e w' => ∃ b : Bool, e = .returned (.bool b) ∧ Cur w0 w' c ∧ Keeps (CS c) w w' := by
  refine spec_l1Once.calls c n ?_
  rw [spec_l1Once.E_s]
  refine (c_l1Below hc hn).mono ?_
  rintro e w1 ⟨x, rfl, h0, h1, hc1, hk1⟩
  exact ⟨x, rfl, _, rfl, hc1, hk1⟩
theorem c_l1PickInt {w0 w : World} {c : Addr} (hc : Cur w0 w c) {s : Sl} {L : List Int} (hs : ∀ w', Keeps (CS c) w w' → RowI w' s L) (h1 : 0 < L.length) (h2 : L.length ≤ 256) :
    Calls PP F.spec_l1PickInt #[.pointer (some c), s.v] w fun e w' => ∃ x : Int, e = .returned (vI x) ∧ x ∈ L ∧ Cur w0 w' c ∧ Keeps (CS c) w w' := by
  have hsn : s.n = L.length := by have := (hs w (Keeps.refl _ _)).n; simpa using this
  refine spec_l1PickInt.calls c s ?_
  rw [spec_l1PickInt.E_s, hsn]
  refine (c_l1Below hc (by omega)).mono ?_
  rintro e w1 ⟨x, rfl, h0, h3, hc1, hk1⟩
  refine ⟨x, rfl, ?_⟩
  refine RowI.get (hs w1 hk1) h0 (by omega) ?_
  have hlt : x.toNat < L.length := by omega
  exact ⟨_, rfl, by simp [List.getD_eq_getElem?_getD, List.getElem?_eq_getElem hlt], hc1, hk1⟩

/-! ### Permutations -/
def upTo (n : Nat) : List Int := (List.range n).map fun (i : Nat) => (i : Int) + 1
theorem upTo_succ (n : Nat) : upTo (n + 1) = upTo n ++ [(n : Int) + 1] := by simp [upTo, List.range_succ]
theorem upTo_length (n : Nat) : (upTo n).length = n := by simp [upTo]
theorem ins_perm {L : List Int} {n at_ : Nat} (h : L.Perm (upTo n)) : (L.take at_ ++ [(n : Int) + 1] ++ L.drop at_).Perm (upTo (n + 1)) := by
  rw [upTo_succ]
  refine List.Perm.trans ?_ (List.Perm.append_right _ h)
  rw [List.append_assoc]
  have h1 : (L.take at_ ++ ([(n : Int) + 1] ++ L.drop at_)).Perm (L.take at_ ++ (L.drop at_ ++ [(n : Int) + 1])) := List.Perm.append_left _ List.perm_append_comm
  have h2 : L.take at_ ++ (L.drop at_ ++ [(n : Int) + 1]) = L ++ [(n : Int) + 1] := by rw [← List.append_assoc, List.take_append_drop]
  rwa [h2] at h1
theorem upTo_mem {n : Nat} {x : Int} : x ∈ upTo n ↔ 1 ≤ x ∧ x ≤ n := by
  simp only [upTo, List.mem_map, List.mem_range]
  constructor
  · rintro ⟨i, hi, rfl⟩; omega
  · rintro ⟨h1, h2⟩; exact ⟨(x - 1).toNat, by omega, by omega⟩

theorem c_l2Draw {w0 w : World} {c : Addr} (hc : Cur w0 w c) {n : Nat} (hn : n ≤ 200) :
    Calls PP F.spec_l2Draw #[.pointer (some c), vI n] w fun e w' => ∃ (s : Sl) (L : List Int), e = .returned s.v ∧ OwnI w' w.heap.size s L ∧ L.Perm (upTo n) ∧ Cur w0 w' c ∧ Keeps (CS c) w w' := by
  have hcl := hc.lt
  refine spec_l2Draw.calls c n ?_
  rw [spec_l2Draw.E_s]
  refine lit0 oneInt (B := w.heap.size) (Nat.le_refl _) ?_
  intro o w1 ho hg1 _
  have hb1 := below_of_grow hg1
  refine spec_l2Draw.L3_rule _ _ _ _ _ _ (I := fun o k w' => 1 ≤ k ∧ k ≤ n + 1 ∧ Cur w0 w' c ∧ Keeps (CS c) w w' ∧ ∃ L : List Int, OwnI w' w.heap.size o L ∧ L.Perm (upTo (k - 1).toNat)) (μ := fun _ k _ => (n + 1 - k).toNat)
    ⟨by omega, by omega, hc.grow hb1, keeps_below hb1 _, [], by simpa [OwnI] using ho, by simp [upTo]⟩ ?_
  rintro o k w2 ⟨hk1, hk, hc2, hkp2, L, hoL, hp⟩
  have hlen : L.length = (k - 1).toNat := by rw [hp.length_eq, upTo_length]
  have hon : o.n = L.length := by have := hoL.n; simpa using this
  rw [spec_l2Draw.B3_s]
  refine bif_dec (fun h3 => ?_) (fun h3 => ?_)
  · rw [hon, w64_id (n := (L.length : Int) + 1) (by omega) (by omega)]
    refine (c_l1Below hc2 (by omega)).mono ?_
    rintro e w3 ⟨at_, rfl, h0, h1, hc3, hk3⟩
    refine ⟨at_, rfl, ?_⟩
    have h1 : at_ ≤ L.length := by omega
    have ho3 : OwnI w3 w.heap.size o L := Own.curs hoL hk3 hcl.2
    have hkp3 := hkp2.trans hk3
    have hsz3 := hkp3.size
    refine lit0 oneInt (B := w3.heap.size) (Nat.le_refl _) ?_
    intro r w4 hr hg4 _
    have hb34 := below_of_grow hg4
    have ho4 := Own.grow ho3 hb34
    refine Row.cut ho4.row (by simpa using h0) (by simp <;> omega) (by simp <;> omega) fun s16 hs16 => ?_
    have e2 : (List.take ((none : Option Int).getD (o.n : Int)).toNat (L.map vI)).drop ((some at_).getD 0).toNat = (L.drop at_.toNat).map vI := by
      rw [hon]; simp [List.map_drop, List.take_of_length_le]
    rw [e2] at hs16
    refine append_row oneInt hr (by have := hb34.size; omega) hs16 (fun v hv => by obtain ⟨x, _, rfl⟩ := List.mem_map.1 hv; exact One.int x) (by simp; omega) ?_
    intro r2 w5 hr2 hg5 _ _
    rw [List.nil_append] at hr2
    have hb35 := hb34.grown hg5 hb34.size (fun g hg => (hr.lt g hg).1)
    have ho5 := Own.grow ho3 hb35
    have hc5 := hc3.grow hb35
    have hkp5 := hkp3.trans (keeps_below hb35 (CS c))
    refine Own.pop ho5 h0 (by rw [List.length_map]; omega) fun s20 hs20 hblk => ?_
    rw [← List.map_take] at hs20
    have hs20 : OwnI w5 w.heap.size s20 (L.take at_.toNat) := hs20
    refine append_int hs20 hkp5.size (by rw [List.length_take]; omega) ?_
    intro o7 w7 ho7 hg7 hn7
    have h57 : Below w.heap.size w5 w7 := (Below.refl _ _).grown hg7 hkp5.size (fun g hg => (hs20.lt g hg).1)
    have hc7 := hc5.keeps (keeps_grown hg7) (fun k hk => by have := (hs20.lt k hk).1; omega)
    have hlt3 : ∀ g, o.blk = some g → g < w3.heap.size := fun g hg => (ho3.lt g hg).2
    have hr7 : Own w7 w3.heap.size T_int r2 ((L.drop at_.toNat).map vI) := Own.keeps hr2 (keeps_grown hg7) (fun g hg hg2 => by
      rw [hblk] at hg2; have := hlt3 g hg2; have := (hr2.lt g hg).1; omega)
    refine append_row oneInt ho7 (Nat.le_trans hkp5.size h57.size) hr7.row (fun v hv => by obtain ⟨x, _, rfl⟩ := List.mem_map.1 hv; exact One.int x) (by simp; omega) ?_
    intro o8 w8 ho8 hg8 _ _
    rw [← List.map_append] at ho8
    have h78 : Below w.heap.size w7 w8 := (Below.refl _ _).grown hg8 (Nat.le_trans hkp5.size h57.size) (fun g hg => (ho7.lt g hg).1)
    have hc8 := hc7.keeps (keeps_grown hg8) (fun k hk => by have := (ho7.lt k hk).1; omega)
    have hkp8 : Keeps (CS c) w w8 := by
      have h58 := h57.trans h78
      exact ⟨h58.os.trans hkp5.os, h58.tape.trans hkp5.tape, h58.output.trans hkp5.output, Nat.le_trans hkp5.size h58.size, fun x hx hn => (h58.block x hx).trans (hkp5.block x hx hn)⟩
    refine ⟨o8, k + 1, by rw [w64_succ (by omega) (by omega)], ⟨by omega, by omega, hc8, hkp8, _, ho8, ?_⟩, by omega⟩
    have := ins_perm (at_ := at_.toNat) hp
    rw [show (((k - 1).toNat : Nat) : Int) + 1 = k by omega, show (k - 1).toNat + 1 = (k + 1 - 1).toNat by omega] at this
    exact this
  · rw [spec_l2Draw.A3_0_s]
    rw [show (k - 1).toNat = n by omega] at hp
    exact ⟨o, L, rfl, hoL, hp, hc2, hkp2⟩
/-- A literal of ints. -/
theorem litL {w : World} {B : Nat} (hB : B ≤ w.heap.size) (n : Nat) (parts : Array (Nat × Value)) (L : List Int) (h0 : 0 < n) (hn : L.length = n) (hm : n ≤ 1000)
    (hf : Instr.fill (fun i => some (i * 1, 1)) ((Array.range (n * 1)).map ((vI 0).cells[· % (vI 0).cells.size]!)) parts.toList = some (L.map vI).toArray) {K : Sl → World → Prop}
    (h : ∀ s w', OwnI w' B s L → Below w.heap.size w w' → K s w') : sem1 .sl PP (Instr.buildSlice T_Sint n parts) w K := by
  obtain ⟨i, hu, hi, hz, hs, hb, hzc⟩ := oneInt
  have hrun : (Instr.buildSlice T_Sint n parts).run PP w = .ok (.slice (some ⟨w.heap.size, 0, none⟩) n n) (w.alloc (.cells (L.map vI).toArray T_int)) := by
    refine run_buildSlice w T_Sint T_int n parts (L.map vI).toArray i (vI 0) hu hi hz (by rw [hs]; omega) (by rw [hs]; omega) ?_
    rw [hs]
    exact hf
  exact ⟨⟨some ⟨w.heap.size, 0, none⟩, n, n⟩, _, hrun, h _ _ ⟨by simp [hn], Nat.le_refl _, by simp only [maxLen]; omega, .inr ⟨_, _, rfl, hB, heap_alloc_new w _, by simp [hn], by
    show (L.map vI).toArray.toList.take n = L.map vI
    exact List.take_of_length_le (by simp [hn])⟩⟩ (below_of_grow (World.grownBy_alloc w _ none))⟩
theorem c_l2Any {w0 w : World} {c : Addr} (hc : Cur w0 w c) :
    Calls PP F.spec_l2Any #[.pointer (some c)] w fun e w' => ∃ (s : Sl) (L : List Int) (n : Nat), e = .returned s.v ∧ OwnI w' w.heap.size s L ∧ L.Perm (upTo n) ∧ n ≤ 8 ∧ Cur w0 w' c ∧ Keeps (CS c) w w' := by
  have hcl := hc.lt
  refine spec_l2Any.calls c ?_
  rw [spec_l2Any.E_s]
  refine litL (B := w.heap.size) (Nat.le_refl _) 11 _ [0, 1, 2, 3, 4, 5, 5, 6, 6, 7, 8] (by omega) rfl (by omega) (by kernel_rfl) ?_
  intro t w1 ht hb1
  have hc1 := hc.grow hb1
  refine (c_l1PickInt hc1 (L := [0, 1, 2, 3, 4, 5, 5, 6, 6, 7, 8]) (fun w' hk => (Own.curs ht hk hcl.2).row) (by simp) (by simp)).mono ?_
  rintro e w2 ⟨x, rfl, hx, hc2, hk2⟩
  refine ⟨x, rfl, ?_⟩
  have hx : 0 ≤ x ∧ x ≤ 8 := by simp at hx; omega
  obtain ⟨n, rfl⟩ : ∃ n : Nat, x = n := ⟨x.toNat, by omega⟩
  have hk02 := (keeps_below hb1 (CS c)).trans hk2
  refine (c_l2Draw hc2 (n := n) (by omega)).mono ?_
  rintro e w3 ⟨s, L, rfl, hs, hp, hc3, hk3⟩
  exact ⟨s, rfl, s, L, n, rfl, hs.mono hk02.size, hp, by omega, hc3, hk02.trans hk3⟩
/-- What a list is that is a permutation mostly. -/
def Bent (L : List Int) : Prop := L.length ≤ 9 ∧ ∀ x ∈ L, -1 ≤ x ∧ x ≤ 11
theorem bent_of {L : List Int} {n : Nat} (h : L.Perm (upTo n)) (hn : n ≤ 8) : L.length ≤ 8 ∧ ∀ x ∈ L, -1 ≤ x ∧ x ≤ 11 :=
  ⟨by rw [h.length_eq, upTo_length]; exact hn, fun x hx => by have := upTo_mem.1 (h.mem_iff.1 hx); omega⟩
theorem c_l2Bent {w0 w : World} {c : Addr} (hc : Cur w0 w c) :
    Calls PP F.spec_l2Bent #[.pointer (some c)] w fun e w' => ∃ (s : Sl) (L : List Int), e = .returned s.v ∧ OwnI w' w.heap.size s L ∧ Bent L ∧ Cur w0 w' c ∧ Keeps (CS c) w w' := by
  have hcl := hc.lt
  refine spec_l2Bent.calls c ?_
  rw [spec_l2Bent.E_s]
  refine (c_l2Any hc).mono ?_
  rintro e w1 ⟨s, L, n, rfl, hs, hp, hn, hc1, hk1⟩
  refine ⟨s, rfl, ?_⟩
  obtain ⟨hl, hx⟩ := bent_of hp hn
  have hsn : s.n = L.length := by have := hs.n; simpa using this
  refine (c_l1Below hc1 (n := 14) (by omega)).mono ?_
  rintro e w2 ⟨x, rfl, _, _, hc2, hk2⟩
  refine ⟨x, rfl, ?_⟩
  have hs2 := Own.curs hs hk2 hcl.2
  have hk12 := hk1.trans hk2
  have asis : ∃ (t : Sl) (M : List Int), Ending.returned s.v = .returned t.v ∧ OwnI w2 w.heap.size t M ∧ Bent M ∧ Cur w0 w2 c ∧ Keeps (CS c) w w2 := ⟨s, L, rfl, hs2, ⟨by omega, hx⟩, hc2, hk12⟩
  refine bif_intro (fun h => ?_) (fun h => ?_)
  · refine (c_l1Below hc2 (n := 12) (by omega)).mono ?_
    rintro e w3 ⟨y, rfl, hy0, hy1, hc3, hk3⟩
    refine ⟨y, rfl, ?_⟩
    have hk13 := hk12.trans hk3
    have ey := w64_id (n := y - 1) (by omega) (by omega)
    dsimp only
    rw [ey]
    refine append_int (Own.curs hs2 hk3 hcl.2) hk13.size (by omega) ?_
    intro s' w4 hs' hg4 _
    have hs3 := Own.curs hs2 hk3 hcl.2
    refine ⟨s', _, rfl, hs', ⟨by simp; omega, fun z hz => ?_⟩, hc3.keeps (keeps_grown hg4) (fun k hk => by have := (hs3.lt k hk).1; omega), ?_⟩
    · rcases List.mem_append.1 hz with hz | hz
      · exact hx z hz
      · simp at hz; omega
    · have h34 : Below w.heap.size w3 w4 := (Below.refl _ _).grown hg4 hk13.size (fun g hg => (hs3.lt g hg).1)
      exact ⟨h34.os.trans hk13.os, h34.tape.trans hk13.tape, h34.output.trans hk13.output, Nat.le_trans hk13.size h34.size, fun x hx hn => (h34.block x hx).trans (hk13.block x hx hn)⟩
  · refine bif_intro (fun h => ?_) (fun h => ?_)
    · refine bif_dec (fun h4 => ?_) (fun h4 => ?_)
      · refine (c_l1Below hc2 (n := 11) (by omega)).mono ?_
        rintro e w3 ⟨y, rfl, hy0, hy1, hc3, hk3⟩
        refine ⟨y, rfl, ?_⟩
        have hk13 := hk12.trans hk3
        have hs3 := Own.curs hs2 hk3 hcl.2
        have ey := w64_id (n := y - 1) (by omega) (by omega)
        dsimp only
        rw [ey]
        refine Own.put hs3 (by omega) (by rw [List.length_map]; omega) ?_
        intro w4 ho4 hg4 _
        have ho4 : OwnI w4 w.heap.size s (L.set 0 (y - 1)) := by simpa [OwnI, List.map_set] using ho4
        refine ⟨s, _, rfl, ho4, ⟨by simp; omega, fun z hz => ?_⟩, hc3.keeps (keeps_grown hg4) (fun k hk => by have := (hs3.lt k hk).1; omega), ?_⟩
        · rcases List.mem_or_eq_of_mem_set hz with hz | hz
          · exact hx z hz
          · omega
        · have h34 : Below w.heap.size w3 w4 := (Below.refl _ _).grown hg4 hk13.size (fun g hg => (hs3.lt g hg).1)
          exact ⟨h34.os.trans hk13.os, h34.tape.trans hk13.tape, h34.output.trans hk13.output, Nat.le_trans hk13.size h34.size, fun x hx hn => (h34.block x hx).trans (hk13.block x hx hn)⟩
      · exact asis
    · exact asis
/-- A draw of such a list, of the bytes handed in. -/
def Drawn (w : World) (e : Ending) (w' : World) : Prop := ∃ (s : Sl) (L : List Int), e = .returned s.v ∧ OwnI w' w.heap.size s L ∧ Bent L ∧ Below w.heap.size w w'
theorem c_bentOf {w : World} {a : Sl} {L : List Int} (ha : RowB w a L) (hL : L.length < 2^60) {K : Sl → World → Prop} (hk : ∀ s M w', OwnI w' w.heap.size s M → Bent M → Below w.heap.size w w' → K s w') :
    call1 .ptr PP F.spec_l1New #[a.v] w fun (c : Option Addr) w1 => call1 .sl PP F.spec_l2Bent #[.pointer c] w1 K := by
  refine (c_l1New ha hL).mono ?_
  rintro e w1 ⟨c, rfl, hc⟩
  refine ⟨some c, rfl, ?_⟩
  refine (c_l2Bent hc).mono ?_
  rintro e w2 ⟨s, M, rfl, hs, hM, hc2, hk2⟩
  exact ⟨s, rfl, hk s M w2 (hs.mono hc.below.size) hM hc2.below⟩
end Go.Proofs.YteplokddaebbeaaGreat

/- What the statement hands in: an argument's reading as a row of bytes. -/
namespace Go.Proofs.YteplokddaebbeaaGreat
open Go Go.RowKit Go.ChangeShapes Go.WideShapes

theorem trod_bytes {P : Program} {H : Type} {enc : TypeId × Value → H} {W : World} {r : Reach} {b0 : Nat} {t e : TypeId} {v : Value} {d : DataW H} {ps : List MemPlace} (ht : P.underlying t = some (.slice e)) (he : P.underlying e = some (.int .u8)) (hc : P.cellsOf e = 1)
    (hval : Value.okWide P W r b0 t v) (h : DataW.Trod enc P W 0 (fun _ => true) true t v d ps) :
    ∃ (s : Sl) (L : List Int), v = s.v ∧ RowB W s L ∧ L.length ≤ maxLen := by
  obtain ⟨a, len, cap, rfl⟩ := okWide_slice ht hval
  obtain ⟨fuel, hf⟩ := h
  rcases open_ints ht he hc hf with ⟨hcs, hx⟩ | ⟨ad, len', cap', zs, hcs, _, hl, hm, hz, hx, hcell, hw⟩
  · simp [Value.cells] at hcs
    obtain ⟨rfl, rfl, rfl⟩ := hcs
    exact ⟨Sl.nil, [], rfl, ⟨rfl, Nat.le_refl _, fun i v hv => by simp at hv⟩, by simp⟩
  · simp [Value.cells] at hcs
    obtain ⟨rfl, rfl, rfl⟩ := hcs
    have hzl : zs.length = cap := by simpa using hz
    refine ⟨⟨some ad, len, cap⟩, zs.take len, rfl, ⟨by simp; omega, hl, fun i u hu => ⟨ad, rfl, ?_⟩⟩, by simp; omega⟩
    rw [List.getElem?_map, List.getElem?_take] at hu
    split at hu
    · rename_i hi
      have := hcell i (by omega)
      rw [this]
      rw [List.getElem?_eq_getElem (by omega)] at hu
      simp at hu
      rw [← hu]
      simp [List.getD_eq_getElem?_getD, List.getElem?_eq_getElem (show i < zs.length by omega)]
    · simp at hu
end Go.Proofs.YteplokddaebbeaaGreat

/- What each function does, step by step, written by a program (Gen.lean); each equation is checked by the kernel. -/
namespace Go.Proofs.YteplokddaebbeaaGreat
open Go
set_option linter.unusedVariables false
set_option maxRecDepth 100000
namespace laws_FnRules
@[reducible] def cfg : Cfg := ⟨172, [(17, [3, 4, 5, 17])], [(1, [3, 4, 5, 17]), (0, [3, 4, 5])], [(11, [3, 4, 5, 6, 11, 12, 16, 103]), (12, [3, 4, 5, 6, 11, 12, 16]), (13, [3, 4, 5, 6, 120]), (14, [3, 4, 5, 6]), (20, [3, 4, 5, 17, 161]), (18, [3, 4, 5, 17])], [2], [19], [13, 12, 21, 89, 36, 108, 74, 75, 104, 78, 125], [73, 117, 103, 46, 4, 30, 40]⟩
def q22 (pr : Prims) (R : Ending → World → Prop) : Exit → Env → World → Prop := fun ex e w => normQ ex (fun e w => contE pr cfg (sub (codeOf Tryz.f3) [1, 1, 1, 1, 1, 1, 1, 1, 1, 1]) (fun e w => wpC pr PP cfg (DD pr) (sub (codeOf Tryz.f3) [1, 1, 1, 1, 1, 1, 1, 1, 1, 1]) (retQ Tryz.f3.results.toList R) e w) e w) (retQ Tryz.f3.results.toList R) e w
def q23 (pr : Prims) (R : Ending → World → Prop) : Exit → Env → World → Prop := fun ex e w => normQ ex (fun e w => contE pr cfg (sub (codeOf Tryz.f3) [1, 1, 1, 1, 1, 1, 1, 1, 1, 0, 1]) (fun e w => wpC pr PP cfg (DD pr) (sub (codeOf Tryz.f3) [1, 1, 1, 1, 1, 1, 1, 1, 1, 0, 1]) (q22 pr R) e w) e w) (q22 pr R) e w
def q24 (pr : Prims) (R : Ending → World → Prop) : Exit → Env → World → Prop := fun ex e w => normQ ex (fun e w => contE pr cfg (sub (codeOf Tryz.f3) [1, 1, 1, 1, 1, 1, 1, 1, 1, 1, 1]) (fun e w => wpC pr PP cfg (DD pr) (sub (codeOf Tryz.f3) [1, 1, 1, 1, 1, 1, 1, 1, 1, 1, 1]) (retQ Tryz.f3.results.toList R) e w) e w) (retQ Tryz.f3.results.toList R) e w
def q25 (pr : Prims) (R : Ending → World → Prop) : Exit → Env → World → Prop := fun ex e w => normQ ex (fun e w => contE pr cfg (sub (codeOf Tryz.f3) [1, 1, 1, 1, 1, 1, 1, 1, 1, 1, 0, 1]) (fun e w => wpC pr PP cfg (DD pr) (sub (codeOf Tryz.f3) [1, 1, 1, 1, 1, 1, 1, 1, 1, 1, 0, 1]) (q24 pr R) e w) e w) (q24 pr R) e w
def q30 (pr : Prims) (R : Ending → World → Prop) : Exit → Env → World → Prop := fun ex e w => normQ ex (fun e w => contE pr cfg (sub (codeOf Tryz.f3) [1, 1, 1, 1, 1, 1, 1, 1, 1, 1, 1, 1, 1]) (fun e w => wpC pr PP cfg (DD pr) (sub (codeOf Tryz.f3) [1, 1, 1, 1, 1, 1, 1, 1, 1, 1, 1, 1, 1]) (retQ Tryz.f3.results.toList R) e w) e w) (retQ Tryz.f3.results.toList R) e w
def q31 (pr : Prims) (R : Ending → World → Prop) : Exit → Env → World → Prop := fun ex e w => blockQ ex 0 (q30 pr R) e w
def q32 (pr : Prims) (k : Env → World → Prop) (Q : Exit → Env → World → Prop) : Exit → Env → World → Prop := fun ex e w => normQ ex (fun e w => contE pr cfg (sub (codeOf Tryz.f3) [1, 1, 1, 1, 1, 1, 1, 1, 1, 1, 1, 1, 0, 1, 0, 0, 1, 1]) (fun e w => wpC pr PP cfg (DD pr) (sub (codeOf Tryz.f3) [1, 1, 1, 1, 1, 1, 1, 1, 1, 1, 1, 1, 0, 1, 0, 0, 1, 1]) (fun ex e w => normQ ex (fun e' w' => k (Env.restr e' (lookN cfg.loops (keyOf (sub (codeOf Tryz.f3) [1, 1, 1, 1, 1, 1, 1, 1, 1, 1, 1, 1, 0, 1, 0, 0])))) w') Q e w) e w) e w) (fun ex e w => normQ ex (fun e' w' => k (Env.restr e' (lookN cfg.loops (keyOf (sub (codeOf Tryz.f3) [1, 1, 1, 1, 1, 1, 1, 1, 1, 1, 1, 1, 0, 1, 0, 0])))) w') Q e w) e w
def q33 (pr : Prims) (k : Env → World → Prop) (Q : Exit → Env → World → Prop) : Exit → Env → World → Prop := fun ex e w => blockQ ex 1 (q32 pr k Q) e w
def q34 (pr : Prims) (k : Env → World → Prop) (Q : Exit → Env → World → Prop) : Exit → Env → World → Prop := fun ex e w => normQ ex (fun e w => contE pr cfg (sub (codeOf Tryz.f3) [1, 1, 1, 1, 1, 1, 1, 1, 1, 1, 1, 1, 0, 1, 0, 0, 1, 0, 0, 1]) (fun e w => wpC pr PP cfg (DD pr) (sub (codeOf Tryz.f3) [1, 1, 1, 1, 1, 1, 1, 1, 1, 1, 1, 1, 0, 1, 0, 0, 1, 0, 0, 1]) (q33 pr k Q) e w) e w) (q33 pr k Q) e w
def j11 (list_3 : Sl) (n_4 : Int) (r_5 : Sl) (ok_6 : Bool) (b_11 : Sl) (m_12 : Int) (labels_16 : Sl) (t103 : Bool) : Env := [(3, Sl.v list_3), (4, vI n_4), (5, Sl.v r_5), (6, .bool ok_6), (11, Sl.v b_11), (12, vI m_12), (16, Sl.v labels_16), (103, .bool t103)]
def j12 (list_3 : Sl) (n_4 : Int) (r_5 : Sl) (ok_6 : Bool) (b_11 : Sl) (m_12 : Int) (labels_16 : Sl) : Env := [(3, Sl.v list_3), (4, vI n_4), (5, Sl.v r_5), (6, .bool ok_6), (11, Sl.v b_11), (12, vI m_12), (16, Sl.v labels_16)]
def j13 (list_3 : Sl) (n_4 : Int) (r_5 : Sl) (ok_6 : Bool) (t120 : Bool) : Env := [(3, Sl.v list_3), (4, vI n_4), (5, Sl.v r_5), (6, .bool ok_6), (120, .bool t120)]
def j14 (list_3 : Sl) (n_4 : Int) (r_5 : Sl) (ok_6 : Bool) : Env := [(3, Sl.v list_3), (4, vI n_4), (5, Sl.v r_5), (6, .bool ok_6)]
def emb17 (list_3 : Sl) (n_4 : Int) (r_5 : Sl) (i_17 : Int) : Env := [(3, Sl.v list_3), (4, vI n_4), (5, Sl.v r_5), (17, vI i_17)]
def j20 (list_3 : Sl) (n_4 : Int) (r_5 : Sl) (i_17 : Int) (t161 : Bool) : Env := [(3, Sl.v list_3), (4, vI n_4), (5, Sl.v r_5), (17, vI i_17), (161, .bool t161)]
def j18 (list_3 : Sl) (n_4 : Int) (r_5 : Sl) (i_17 : Int) : Env := [(3, Sl.v list_3), (4, vI n_4), (5, Sl.v r_5), (17, vI i_17)]
def x0 (list_3 : Sl) (n_4 : Int) (r_5 : Sl) : Env := [(3, Sl.v list_3), (4, vI n_4), (5, Sl.v r_5)]
def S17 (pr : Prims) (Q : Exit → Env → World → Prop) : (Env → World → Prop) → Env → World → Prop := fun k e w => wpC pr PP cfg (DD pr) (sub (codeOf Tryz.f3) [1, 1, 1, 1, 1, 1, 1, 1, 1, 1, 1, 1, 0, 1, 0, 0]) (fun ex e w => normQ ex (fun e' w' => k (Env.restr e' (lookN cfg.loops (keyOf (sub (codeOf Tryz.f3) [1, 1, 1, 1, 1, 1, 1, 1, 1, 1, 1, 1, 0, 1, 0, 0])))) w') Q e w) e w
def J18 (pr : Prims) (list_3 : Sl) (n_4 : Int) (r_5 : Sl) (i_17 : Int) (w : World) (k : Env → World → Prop) (Q : Exit → Env → World → Prop) : Prop :=
  pr.seg (fun e w => wpC pr PP cfg (DD pr) (sub (codeOf Tryz.f3) [1, 1, 1, 1, 1, 1, 1, 1, 1, 1, 1, 1, 0, 1, 0, 0, 1, 1]) (fun ex e w => normQ ex (fun e' w' => k (Env.restr e' (lookN cfg.loops (keyOf (sub (codeOf Tryz.f3) [1, 1, 1, 1, 1, 1, 1, 1, 1, 1, 1, 1, 0, 1, 0, 0])))) w') Q e w) e w) (j18 list_3 n_4 r_5 i_17) w
def J20 (pr : Prims) (list_3 : Sl) (n_4 : Int) (r_5 : Sl) (i_17 : Int) (t161 : Bool) (w : World) (k : Env → World → Prop) (Q : Exit → Env → World → Prop) : Prop :=
  pr.seg (fun e w => wpC pr PP cfg (DD pr) (sub (codeOf Tryz.f3) [1, 1, 1, 1, 1, 1, 1, 1, 1, 1, 1, 1, 0, 1, 0, 0, 1, 0, 0, 1]) (q33 pr k Q) e w) (j20 list_3 n_4 r_5 i_17 t161) w
def B17 (pr : Prims) (list_3 : Sl) (n_4 : Int) (r_5 : Sl) (i_17 : Int) (w : World) (k : Env → World → Prop) (Q : Exit → Env → World → Prop) : Prop :=
  S17 pr Q k (emb17 list_3 n_4 r_5 i_17) w
def L17 (pr : Prims) (list_3 : Sl) (n_4 : Int) (r_5 : Sl) (i_17 : Int) (w : World) (Q : Exit → Env → World → Prop) : Prop :=
  pr.loop (S17 pr Q) (emb17 list_3 n_4 r_5 i_17) w
def J14 (pr : Prims) (list_3 : Sl) (n_4 : Int) (r_5 : Sl) (ok_6 : Bool) (w : World) (R : Ending → World → Prop) : Prop :=
  pr.seg (fun e w => wpC pr PP cfg (DD pr) (sub (codeOf Tryz.f3) [1, 1, 1, 1, 1, 1, 1, 1, 1, 1, 1]) (retQ Tryz.f3.results.toList R) e w) (j14 list_3 n_4 r_5 ok_6) w
def J13 (pr : Prims) (list_3 : Sl) (n_4 : Int) (r_5 : Sl) (ok_6 : Bool) (t120 : Bool) (w : World) (R : Ending → World → Prop) : Prop :=
  pr.seg (fun e w => wpC pr PP cfg (DD pr) (sub (codeOf Tryz.f3) [1, 1, 1, 1, 1, 1, 1, 1, 1, 1, 0, 1]) (q24 pr R) e w) (j13 list_3 n_4 r_5 ok_6 t120) w
def J12 (pr : Prims) (list_3 : Sl) (n_4 : Int) (r_5 : Sl) (ok_6 : Bool) (b_11 : Sl) (m_12 : Int) (labels_16 : Sl) (w : World) (R : Ending → World → Prop) : Prop :=
  pr.seg (fun e w => wpC pr PP cfg (DD pr) (sub (codeOf Tryz.f3) [1, 1, 1, 1, 1, 1, 1, 1, 1, 1]) (retQ Tryz.f3.results.toList R) e w) (j12 list_3 n_4 r_5 ok_6 b_11 m_12 labels_16) w
def J11 (pr : Prims) (list_3 : Sl) (n_4 : Int) (r_5 : Sl) (ok_6 : Bool) (b_11 : Sl) (m_12 : Int) (labels_16 : Sl) (t103 : Bool) (w : World) (R : Ending → World → Prop) : Prop :=
  pr.seg (fun e w => wpC pr PP cfg (DD pr) (sub (codeOf Tryz.f3) [1, 1, 1, 1, 1, 1, 1, 1, 1, 0, 1]) (q22 pr R) e w) (j11 list_3 n_4 r_5 ok_6 b_11 m_12 labels_16 t103) w
def E (pr : Prims) (code_0 : Sl) (w : World) (R : Ending → World → Prop) : Prop :=
  wpC pr PP cfg (DD pr) (codeOf Tryz.f3) (retQ Tryz.f3.results.toList R) (argE 0 [Sl.v code_0]) w
theorem J18_gen (pr : Prims) (list_3 : Sl) (n_4 : Int) (r_5 : Sl) (i_17 : Int) (w : World) (k : Env → World → Prop) (Q : Exit → Env → World → Prop) : wpC pr PP cfg (DD pr) (sub (codeOf Tryz.f3) [1, 1, 1, 1, 1, 1, 1, 1, 1, 1, 1, 1, 0, 1, 0, 0, 1, 1]) (fun ex e w => normQ ex (fun e' w' => k (Env.restr e' (lookN cfg.loops (keyOf (sub (codeOf Tryz.f3) [1, 1, 1, 1, 1, 1, 1, 1, 1, 1, 1, 1, 0, 1, 0, 0])))) w') Q e w) (j18 list_3 n_4 r_5 i_17) w = (
  k (emb17 list_3 n_4 r_5 (w64 (i_17 + 1))) w) := by kernel_rfl
theorem J18_s (list_3 : Sl) (n_4 : Int) (r_5 : Sl) (i_17 : Int) (w : World) (k : Env → World → Prop) (Q : Exit → Env → World → Prop) : J18 std list_3 n_4 r_5 i_17 w k Q = (
  k (emb17 list_3 n_4 r_5 (w64 (i_17 + 1))) w) := J18_gen std list_3 n_4 r_5 i_17 w k Q
theorem J20_gen (pr : Prims) (list_3 : Sl) (n_4 : Int) (r_5 : Sl) (i_17 : Int) (t161 : Bool) (w : World) (k : Env → World → Prop) (Q : Exit → Env → World → Prop) : wpC pr PP cfg (DD pr) (sub (codeOf Tryz.f3) [1, 1, 1, 1, 1, 1, 1, 1, 1, 1, 1, 1, 0, 1, 0, 0, 1, 0, 0, 1]) (q33 pr k Q) (j20 list_3 n_4 r_5 i_17 t161) w = (
  bif t161 then (
  Q .ret [(2, .bool false)] w)
  else (
  J18 pr list_3 n_4 r_5 i_17 w k Q)) := by kernel_rfl
theorem J20_s (list_3 : Sl) (n_4 : Int) (r_5 : Sl) (i_17 : Int) (t161 : Bool) (w : World) (k : Env → World → Prop) (Q : Exit → Env → World → Prop) : J20 std list_3 n_4 r_5 i_17 t161 w k Q = (
  bif t161 then (
  Q .ret [(2, .bool false)] w)
  else (
  J18 std list_3 n_4 r_5 i_17 w k Q)) := J20_gen std list_3 n_4 r_5 i_17 t161 w k Q
theorem B17_eq (pr : Prims) (list_3 : Sl) (n_4 : Int) (r_5 : Sl) (i_17 : Int) (w : World) (k : Env → World → Prop) (Q : Exit → Env → World → Prop) : B17 pr list_3 n_4 r_5 i_17 w k Q = (
  bif decide (i_17 < (r_5.n : Int)) then (
  pr.idxK 1 r_5 i_17 fun (a35 : Addr) =>
  pr.load1 .sl a35 w fun (ξ36 : Sl) =>
  pr.idxK 1 r_5 i_17 fun (a37 : Addr) =>
  pr.load1 .sl a37 w fun (ξ38 : Sl) =>
  pr.idxK 1 ξ38 0 fun (a39 : Addr) =>
  pr.load1 (.int .i64) a39 w fun (ξ40 : Int) =>
  bif (ξ36.n : Int) != (w64 (ξ40 + 1)) then (
  pr.drewAll w fun ω41 =>
  J20 pr list_3 n_4 r_5 i_17 true ω41 k Q)
  else (
  bif decide (i_17 > 0) then (
  pr.idxK 1 r_5 i_17 fun (a42 : Addr) =>
  pr.load1 .sl a42 w fun (ξ43 : Sl) =>
  pr.idxK 1 ξ43 0 fun (a44 : Addr) =>
  pr.load1 (.int .i64) a44 w fun (ξ45 : Int) =>
  pr.idxK 1 r_5 (w64 (i_17 - 1)) fun (a46 : Addr) =>
  pr.load1 .sl a46 w fun (ξ47 : Sl) =>
  pr.idxK 1 ξ47 0 fun (a48 : Addr) =>
  pr.load1 (.int .i64) a48 w fun (ξ49 : Int) =>
  pr.drewAll w fun ω50 =>
  J20 pr list_3 n_4 r_5 i_17 (decide (ξ45 ≤ ξ49)) ω50 k Q)
  else (
  pr.drewAll w fun ω51 =>
  J20 pr list_3 n_4 r_5 i_17 false ω51 k Q)))
  else (
  Q (.exit 0) (x0 list_3 n_4 r_5) w)) := by kernel_rfl
theorem B17_s (list_3 : Sl) (n_4 : Int) (r_5 : Sl) (i_17 : Int) (w : World) (k : Env → World → Prop) (Q : Exit → Env → World → Prop) : B17 std list_3 n_4 r_5 i_17 w k Q = (
  bif decide (i_17 < (r_5.n : Int)) then (
  idxK 1 r_5 i_17 fun (a35 : Addr) =>
  load1 .sl a35 w fun (ξ36 : Sl) =>
  idxK 1 r_5 i_17 fun (a37 : Addr) =>
  load1 .sl a37 w fun (ξ38 : Sl) =>
  idxK 1 ξ38 0 fun (a39 : Addr) =>
  load1 (.int .i64) a39 w fun (ξ40 : Int) =>
  bif (ξ36.n : Int) != (w64 (ξ40 + 1)) then (
  drewAll w fun ω41 =>
  J20 std list_3 n_4 r_5 i_17 true ω41 k Q)
  else (
  bif decide (i_17 > 0) then (
  idxK 1 r_5 i_17 fun (a42 : Addr) =>
  load1 .sl a42 w fun (ξ43 : Sl) =>
  idxK 1 ξ43 0 fun (a44 : Addr) =>
  load1 (.int .i64) a44 w fun (ξ45 : Int) =>
  idxK 1 r_5 (w64 (i_17 - 1)) fun (a46 : Addr) =>
  load1 .sl a46 w fun (ξ47 : Sl) =>
  idxK 1 ξ47 0 fun (a48 : Addr) =>
  load1 (.int .i64) a48 w fun (ξ49 : Int) =>
  drewAll w fun ω50 =>
  J20 std list_3 n_4 r_5 i_17 (decide (ξ45 ≤ ξ49)) ω50 k Q)
  else (
  drewAll w fun ω51 =>
  J20 std list_3 n_4 r_5 i_17 false ω51 k Q)))
  else (
  Q (.exit 0) (x0 list_3 n_4 r_5) w)) := B17_eq std list_3 n_4 r_5 i_17 w k Q
theorem L17_rule (list_3 : Sl) (n_4 : Int) (r_5 : Sl) (i_17 : Int) (w : World) (Q : Exit → Env → World → Prop) (I : Int → World → Prop) (μ : Int → World → Nat) (h0 : I i_17 w)
    (h : ∀ (i_17 : Int) (w' : World), I i_17 w' → B17 std list_3 n_4 r_5 i_17 w' (fun e2 w2 => ∃ i_17_n, e2 = emb17 list_3 n_4 r_5 i_17_n ∧ I i_17_n w2 ∧ μ i_17_n w2 < μ i_17 w') Q) :
    L17 std list_3 n_4 r_5 i_17 w Q := by
  unfold L17
  refine LoopE.intro (σ := Int) (step := S17 std Q) (fun s => emb17 list_3 n_4 r_5 s) (fun s w => I s w) (fun s w => μ s w) i_17 rfl h0 ?_
  intro s w' hI
  have h1 := h s w' hI
  unfold B17 at h1
  exact h1
theorem A17_0_eq (pr : Prims) (list_3 : Sl) (n_4 : Int) (r_5 : Sl) (w : World) (R : Ending → World → Prop) : (q31 pr R) (.exit 0) (x0 list_3 n_4 r_5) w = (
  pr.sem1 .sl PP (Instr.buildSlice T_Sint 0 #[]) w fun (ρ52 : Sl) ω53 =>
  pr.call1 (.int .i64) PP F.spec_LabelOf #[Sl.v list_3, Sl.v ρ52] ω53 fun (ρ54 : Int) ω55 =>
  pr.call1 .sl PP F.impl_RuleCounts #[Sl.v r_5, vI ρ54, vI n_4] ω55 fun (ρ56 : Sl) ω57 =>
  pr.call1 .sl PP F.spec_ClassCounts #[Sl.v list_3, vI n_4] ω57 fun (ρ58 : Sl) ω59 =>
  pr.call1 .bool PP F.laws_sameInts #[Sl.v ρ56, Sl.v ρ58] ω59 fun (ρ60 : Bool) ω61 =>
  R (.returned (.bool ρ60)) ω61) := by kernel_rfl
theorem A17_0_s (list_3 : Sl) (n_4 : Int) (r_5 : Sl) (w : World) (R : Ending → World → Prop) : (q31 std R) (.exit 0) (x0 list_3 n_4 r_5) w = (
  sem1 .sl PP (Instr.buildSlice T_Sint 0 #[]) w fun (ρ52 : Sl) ω53 =>
  call1 (.int .i64) PP F.spec_LabelOf #[Sl.v list_3, Sl.v ρ52] ω53 fun (ρ54 : Int) ω55 =>
  call1 .sl PP F.impl_RuleCounts #[Sl.v r_5, vI ρ54, vI n_4] ω55 fun (ρ56 : Sl) ω57 =>
  call1 .sl PP F.spec_ClassCounts #[Sl.v list_3, vI n_4] ω57 fun (ρ58 : Sl) ω59 =>
  call1 .bool PP F.laws_sameInts #[Sl.v ρ56, Sl.v ρ58] ω59 fun (ρ60 : Bool) ω61 =>
  R (.returned (.bool ρ60)) ω61) := A17_0_eq std list_3 n_4 r_5 w R
theorem R17_eq (pr : Prims) (v2 : Value) (w : World) (R : Ending → World → Prop) : (q31 pr R) .ret [(2, v2)] w = (
  R (.returned (v2)) w) := by kernel_rfl
theorem R17_s (v2 : Value) (w : World) (R : Ending → World → Prop) : (q31 std R) .ret [(2, v2)] w = (
  R (.returned (v2)) w) := R17_eq std v2 w R
theorem J14_gen (pr : Prims) (list_3 : Sl) (n_4 : Int) (r_5 : Sl) (ok_6 : Bool) (w : World) (R : Ending → World → Prop) : wpC pr PP cfg (DD pr) (sub (codeOf Tryz.f3) [1, 1, 1, 1, 1, 1, 1, 1, 1, 1, 1]) (retQ Tryz.f3.results.toList R) (j14 list_3 n_4 r_5 ok_6) w = (
  bif !ok_6 then (
  R (.returned (.bool true)) w)
  else (
  L17 pr list_3 n_4 r_5 0 w (q31 pr R))) := by kernel_rfl
theorem J14_s (list_3 : Sl) (n_4 : Int) (r_5 : Sl) (ok_6 : Bool) (w : World) (R : Ending → World → Prop) : J14 std list_3 n_4 r_5 ok_6 w R = (
  bif !ok_6 then (
  R (.returned (.bool true)) w)
  else (
  L17 std list_3 n_4 r_5 0 w (q31 std R))) := J14_gen std list_3 n_4 r_5 ok_6 w R
theorem J13_gen (pr : Prims) (list_3 : Sl) (n_4 : Int) (r_5 : Sl) (ok_6 : Bool) (t120 : Bool) (w : World) (R : Ending → World → Prop) : wpC pr PP cfg (DD pr) (sub (codeOf Tryz.f3) [1, 1, 1, 1, 1, 1, 1, 1, 1, 1, 0, 1]) (q24 pr R) (j13 list_3 n_4 r_5 ok_6 t120) w = (
  bif t120 then (
  R (.returned (.bool false)) w)
  else (
  J14 pr list_3 n_4 r_5 ok_6 w R)) := by kernel_rfl
theorem J13_s (list_3 : Sl) (n_4 : Int) (r_5 : Sl) (ok_6 : Bool) (t120 : Bool) (w : World) (R : Ending → World → Prop) : J13 std list_3 n_4 r_5 ok_6 t120 w R = (
  bif t120 then (
  R (.returned (.bool false)) w)
  else (
  J14 std list_3 n_4 r_5 ok_6 w R)) := J13_gen std list_3 n_4 r_5 ok_6 t120 w R
theorem J12_gen (pr : Prims) (list_3 : Sl) (n_4 : Int) (r_5 : Sl) (ok_6 : Bool) (b_11 : Sl) (m_12 : Int) (labels_16 : Sl) (w : World) (R : Ending → World → Prop) : wpC pr PP cfg (DD pr) (sub (codeOf Tryz.f3) [1, 1, 1, 1, 1, 1, 1, 1, 1, 1]) (retQ Tryz.f3.results.toList R) (j12 list_3 n_4 r_5 ok_6 b_11 m_12 labels_16) w = (
  bif decide ((labels_16.n : Int) > 0) then (
  bif decide (m_12 < 6) then (
  pr.call1 (.int .i64) PP F.laws_total #[Sl.v labels_16] w fun (ρ26 : Int) ω27 =>
  pr.call1 .sl PP F.spec_ClassOf #[Sl.v b_11, vI (w64 (m_12 + 1))] ω27 fun (ρ28 : Sl) ω29 =>
  J13 pr list_3 n_4 r_5 ok_6 (ρ26 != (ρ28.n : Int)) ω29 R)
  else (
  J13 pr list_3 n_4 r_5 ok_6 false w R))
  else (
  J13 pr list_3 n_4 r_5 ok_6 false w R)) := by kernel_rfl
theorem J12_s (list_3 : Sl) (n_4 : Int) (r_5 : Sl) (ok_6 : Bool) (b_11 : Sl) (m_12 : Int) (labels_16 : Sl) (w : World) (R : Ending → World → Prop) : J12 std list_3 n_4 r_5 ok_6 b_11 m_12 labels_16 w R = (
  bif decide ((labels_16.n : Int) > 0) then (
  bif decide (m_12 < 6) then (
  call1 (.int .i64) PP F.laws_total #[Sl.v labels_16] w fun (ρ26 : Int) ω27 =>
  call1 .sl PP F.spec_ClassOf #[Sl.v b_11, vI (w64 (m_12 + 1))] ω27 fun (ρ28 : Sl) ω29 =>
  J13 std list_3 n_4 r_5 ok_6 (ρ26 != (ρ28.n : Int)) ω29 R)
  else (
  J13 std list_3 n_4 r_5 ok_6 false w R))
  else (
  J13 std list_3 n_4 r_5 ok_6 false w R)) := J12_gen std list_3 n_4 r_5 ok_6 b_11 m_12 labels_16 w R
theorem J11_gen (pr : Prims) (list_3 : Sl) (n_4 : Int) (r_5 : Sl) (ok_6 : Bool) (b_11 : Sl) (m_12 : Int) (labels_16 : Sl) (t103 : Bool) (w : World) (R : Ending → World → Prop) : wpC pr PP cfg (DD pr) (sub (codeOf Tryz.f3) [1, 1, 1, 1, 1, 1, 1, 1, 1, 0, 1]) (q22 pr R) (j11 list_3 n_4 r_5 ok_6 b_11 m_12 labels_16 t103) w = (
  bif t103 then (
  R (.returned (.bool false)) w)
  else (
  J12 pr list_3 n_4 r_5 ok_6 b_11 m_12 labels_16 w R)) := by kernel_rfl
theorem J11_s (list_3 : Sl) (n_4 : Int) (r_5 : Sl) (ok_6 : Bool) (b_11 : Sl) (m_12 : Int) (labels_16 : Sl) (t103 : Bool) (w : World) (R : Ending → World → Prop) : J11 std list_3 n_4 r_5 ok_6 b_11 m_12 labels_16 t103 w R = (
  bif t103 then (
  R (.returned (.bool false)) w)
  else (
  J12 std list_3 n_4 r_5 ok_6 b_11 m_12 labels_16 w R)) := J11_gen std list_3 n_4 r_5 ok_6 b_11 m_12 labels_16 t103 w R
theorem E_eq (pr : Prims) (code_0 : Sl) (w : World) (R : Ending → World → Prop) : E pr code_0 w R = (
  pr.pcall1 .bool PP F.laws_big #[Sl.v code_0] fun (ρ0 : Bool) =>
  bif ρ0 then (
  R (.returned (.bool true)) w)
  else (
  pr.call2 .sl (.int .i64) PP F.spec_DrawRuleUpTo #[Sl.v code_0] w fun (ρ1 : Sl) (ρ2 : Int) ω3 =>
  pr.call2 .sl .bool PP F.impl_RuleUpTo #[Sl.v ρ1, vI ρ2] ω3 fun (ρ4 : Sl) (ρ5 : Bool) ω6 =>
  pr.call2 .sl .bool PP F.spec_RuleUpTo #[Sl.v ρ1, vI ρ2] ω6 fun (ρ7 : Sl) (ρ8 : Bool) ω9 =>
  pr.call2 .sl .sl PP F.spec_DrawChildLabels #[Sl.v code_0] ω9 fun (ρ10 : Sl) (ρ11 : Sl) ω12 =>
  pr.call2 .sl (.int .i64) PP F.spec_DrawLabelsAt #[Sl.v code_0] ω12 fun (ρ13 : Sl) (ρ14 : Int) ω15 =>
  pr.call3 .sl (.int .i64) (.int .i64) PP F.spec_DrawRuleCounts #[Sl.v code_0] ω15 fun (ρ16 : Sl) (ρ17 : Int) (ρ18 : Int) ω19 =>
  pr.call1 .sl PP F.impl_LabelsAt #[Sl.v ρ13, vI ρ14] ω19 fun (ρ20 : Sl) ω21 =>
  bif !(ρ5 == ρ8) then (
  J11 pr ρ1 ρ2 ρ4 ρ5 ρ13 ρ14 ρ20 true ω21 R)
  else (
  pr.call1 .bool PP F.laws_sameLists #[Sl.v ρ4, Sl.v ρ7] ω21 fun (ρ62 : Bool) ω63 =>
  bif !ρ62 then (
  J11 pr ρ1 ρ2 ρ4 ρ5 ρ13 ρ14 ρ20 true ω63 R)
  else (
  pr.call1 .sl PP F.impl_ChildLabels #[Sl.v ρ10, Sl.v ρ11] ω63 fun (ρ64 : Sl) ω65 =>
  pr.call1 .sl PP F.spec_ChildLabels #[Sl.v ρ10, Sl.v ρ11] ω65 fun (ρ66 : Sl) ω67 =>
  pr.call1 .bool PP F.laws_sameInts #[Sl.v ρ64, Sl.v ρ66] ω67 fun (ρ68 : Bool) ω69 =>
  bif !ρ68 then (
  J11 pr ρ1 ρ2 ρ4 ρ5 ρ13 ρ14 ρ20 true ω69 R)
  else (
  pr.call1 .sl PP F.spec_LabelsAt #[Sl.v ρ13, vI ρ14] ω69 fun (ρ70 : Sl) ω71 =>
  pr.call1 .bool PP F.laws_sameInts #[Sl.v ρ20, Sl.v ρ70] ω71 fun (ρ72 : Bool) ω73 =>
  bif !ρ72 then (
  J11 pr ρ1 ρ2 ρ4 ρ5 ρ13 ρ14 ρ20 true ω73 R)
  else (
  pr.call1 .sl PP F.impl_RuleCounts #[Sl.v ρ16, vI ρ17, vI ρ18] ω73 fun (ρ74 : Sl) ω75 =>
  pr.call1 .sl PP F.spec_RuleCounts #[Sl.v ρ16, vI ρ17, vI ρ18] ω75 fun (ρ76 : Sl) ω77 =>
  pr.call1 .bool PP F.laws_sameInts #[Sl.v ρ74, Sl.v ρ76] ω77 fun (ρ78 : Bool) ω79 =>
  bif !ρ78 then (
  J11 pr ρ1 ρ2 ρ4 ρ5 ρ13 ρ14 ρ20 true ω79 R)
  else (
  pr.call1 (.int .i64) PP F.impl_LabelOf #[Sl.v ρ10, Sl.v ρ11] ω79 fun (ρ80 : Int) ω81 =>
  pr.call1 (.int .i64) PP F.spec_LabelOf #[Sl.v ρ10, Sl.v ρ11] ω81 fun (ρ82 : Int) ω83 =>
  J11 pr ρ1 ρ2 ρ4 ρ5 ρ13 ρ14 ρ20 (ρ80 != ρ82) ω83 R))))))) := by kernel_rfl
theorem E_s (code_0 : Sl) (w : World) (R : Ending → World → Prop) : E std code_0 w R = (
  pcall1 .bool PP F.laws_big #[Sl.v code_0] fun (ρ0 : Bool) =>
  bif ρ0 then (
  R (.returned (.bool true)) w)
  else (
  call2 .sl (.int .i64) PP F.spec_DrawRuleUpTo #[Sl.v code_0] w fun (ρ1 : Sl) (ρ2 : Int) ω3 =>
  call2 .sl .bool PP F.impl_RuleUpTo #[Sl.v ρ1, vI ρ2] ω3 fun (ρ4 : Sl) (ρ5 : Bool) ω6 =>
  call2 .sl .bool PP F.spec_RuleUpTo #[Sl.v ρ1, vI ρ2] ω6 fun (ρ7 : Sl) (ρ8 : Bool) ω9 =>
  call2 .sl .sl PP F.spec_DrawChildLabels #[Sl.v code_0] ω9 fun (ρ10 : Sl) (ρ11 : Sl) ω12 =>
  call2 .sl (.int .i64) PP F.spec_DrawLabelsAt #[Sl.v code_0] ω12 fun (ρ13 : Sl) (ρ14 : Int) ω15 =>
  call3 .sl (.int .i64) (.int .i64) PP F.spec_DrawRuleCounts #[Sl.v code_0] ω15 fun (ρ16 : Sl) (ρ17 : Int) (ρ18 : Int) ω19 =>
  call1 .sl PP F.impl_LabelsAt #[Sl.v ρ13, vI ρ14] ω19 fun (ρ20 : Sl) ω21 =>
  bif !(ρ5 == ρ8) then (
  J11 std ρ1 ρ2 ρ4 ρ5 ρ13 ρ14 ρ20 true ω21 R)
  else (
  call1 .bool PP F.laws_sameLists #[Sl.v ρ4, Sl.v ρ7] ω21 fun (ρ62 : Bool) ω63 =>
  bif !ρ62 then (
  J11 std ρ1 ρ2 ρ4 ρ5 ρ13 ρ14 ρ20 true ω63 R)
  else (
  call1 .sl PP F.impl_ChildLabels #[Sl.v ρ10, Sl.v ρ11] ω63 fun (ρ64 : Sl) ω65 =>
  call1 .sl PP F.spec_ChildLabels #[Sl.v ρ10, Sl.v ρ11] ω65 fun (ρ66 : Sl) ω67 =>
  call1 .bool PP F.laws_sameInts #[Sl.v ρ64, Sl.v ρ66] ω67 fun (ρ68 : Bool) ω69 =>
  bif !ρ68 then (
  J11 std ρ1 ρ2 ρ4 ρ5 ρ13 ρ14 ρ20 true ω69 R)
  else (
  call1 .sl PP F.spec_LabelsAt #[Sl.v ρ13, vI ρ14] ω69 fun (ρ70 : Sl) ω71 =>
  call1 .bool PP F.laws_sameInts #[Sl.v ρ20, Sl.v ρ70] ω71 fun (ρ72 : Bool) ω73 =>
  bif !ρ72 then (
  J11 std ρ1 ρ2 ρ4 ρ5 ρ13 ρ14 ρ20 true ω73 R)
  else (
  call1 .sl PP F.impl_RuleCounts #[Sl.v ρ16, vI ρ17, vI ρ18] ω73 fun (ρ74 : Sl) ω75 =>
  call1 .sl PP F.spec_RuleCounts #[Sl.v ρ16, vI ρ17, vI ρ18] ω75 fun (ρ76 : Sl) ω77 =>
  call1 .bool PP F.laws_sameInts #[Sl.v ρ74, Sl.v ρ76] ω77 fun (ρ78 : Bool) ω79 =>
  bif !ρ78 then (
  J11 std ρ1 ρ2 ρ4 ρ5 ρ13 ρ14 ρ20 true ω79 R)
  else (
  call1 (.int .i64) PP F.impl_LabelOf #[Sl.v ρ10, Sl.v ρ11] ω79 fun (ρ80 : Int) ω81 =>
  call1 (.int .i64) PP F.spec_LabelOf #[Sl.v ρ10, Sl.v ρ11] ω81 fun (ρ82 : Int) ω83 =>
  J11 std ρ1 ρ2 ρ4 ρ5 ρ13 ρ14 ρ20 (ρ80 != ρ82) ω83 R))))))) := E_eq std code_0 w R
theorem drawsOk : drawsOk PP cfg okD (codeOf Tryz.f3) = true := by kernel_rfl
theorem calls (code_0 : Sl) {w : World} {R : Ending → World → Prop} (h : E std code_0 w R) : Calls PP F.laws_FnRules #[Sl.v code_0] w R :=
  calls_of noCount mixed drawOk Tryz.func3 rfl (c := cfg) (args := [Sl.v code_0]) rfl (Nat.le_of_ble_eq_true (by kernel_rfl)) drawsOk h
end laws_FnRules

namespace spec_DrawRuleUpTo
@[reducible] def cfg : Cfg := ⟨27, [], [], [(5, [4, 5])], [2, 3], [], [13, 12, 21, 89, 36, 108, 74, 75, 104, 78, 125], [73, 117, 103, 46, 4, 30, 40]⟩
def q9 (pr : Prims) (R : Ending → World → Prop) : Exit → Env → World → Prop := fun ex e w => normQ ex (fun e w => contE pr cfg (sub (codeOf Tryz.f5) [1, 1, 1, 1]) (fun e w => wpC pr PP cfg (DD pr) (sub (codeOf Tryz.f5) [1, 1, 1, 1]) (retQ Tryz.f5.results.toList R) e w) e w) (retQ Tryz.f5.results.toList R) e w
def j5 (c_4 : (Option Addr)) (list_5 : Sl) : Env := [(4, .pointer c_4), (5, Sl.v list_5)]
def J5 (pr : Prims) (c_4 : (Option Addr)) (list_5 : Sl) (w : World) (R : Ending → World → Prop) : Prop :=
  pr.seg (fun e w => wpC pr PP cfg (DD pr) (sub (codeOf Tryz.f5) [1, 1, 1, 1]) (retQ Tryz.f5.results.toList R) e w) (j5 c_4 list_5) w
def E (pr : Prims) (code_0 : Sl) (w : World) (R : Ending → World → Prop) : Prop :=
  wpC pr PP cfg (DD pr) (codeOf Tryz.f5) (retQ Tryz.f5.results.toList R) (argE 0 [Sl.v code_0]) w
theorem J5_gen (pr : Prims) (c_4 : (Option Addr)) (list_5 : Sl) (w : World) (R : Ending → World → Prop) : wpC pr PP cfg (DD pr) (sub (codeOf Tryz.f5) [1, 1, 1, 1]) (retQ Tryz.f5.results.toList R) (j5 c_4 list_5) w = (
  pr.call1 (.int .i64) PP F.spec_l1Below #[.pointer c_4, vI 5] w fun (ρ14 : Int) ω15 =>
  pr.call1 .bool PP F.spec_l1Once #[.pointer c_4, vI 12] ω15 fun (ρ16 : Bool) ω17 =>
  pr.pcall1 (.int .i64) PP F.spec_l1Bit #[.bool ρ16] fun (ρ18 : Int) =>
  R (.returned (.tuple #[Sl.v list_5, vI (w64 (ρ14 - ρ18))])) ω17) := by kernel_rfl
theorem J5_s (c_4 : (Option Addr)) (list_5 : Sl) (w : World) (R : Ending → World → Prop) : J5 std c_4 list_5 w R = (
  call1 (.int .i64) PP F.spec_l1Below #[.pointer c_4, vI 5] w fun (ρ14 : Int) ω15 =>
  call1 .bool PP F.spec_l1Once #[.pointer c_4, vI 12] ω15 fun (ρ16 : Bool) ω17 =>
  pcall1 (.int .i64) PP F.spec_l1Bit #[.bool ρ16] fun (ρ18 : Int) =>
  R (.returned (.tuple #[Sl.v list_5, vI (w64 (ρ14 - ρ18))])) ω17) := J5_gen std c_4 list_5 w R
theorem E_eq (pr : Prims) (code_0 : Sl) (w : World) (R : Ending → World → Prop) : E pr code_0 w R = (
  pr.call1 .ptr PP F.spec_l1New #[Sl.v code_0] w fun (ρ0 : (Option Addr)) ω1 =>
  pr.sem1 .sl PP (Instr.buildSlice T_Sstring 14 #[(0, .string (⟨#[]⟩ : ByteArray)), (1, .string (⟨#[49, 50, 51]⟩ : ByteArray)), (2, .string (⟨#[49, 51, 50]⟩ : ByteArray)), (3, .string (⟨#[50, 49, 51]⟩ : ByteArray)), (4, .string (⟨#[50, 51, 49]⟩ : ByteArray)), (5, .string (⟨#[51, 49, 50]⟩ : ByteArray)), (6, .string (⟨#[51, 50, 49]⟩ : ByteArray)), (7, .string (⟨#[49, 50]⟩ : ByteArray)), (8, .string (⟨#[50, 49]⟩ : ByteArray)), (9, .string (⟨#[49, 50, 51, 32, 49, 51, 50]⟩ : ByteArray)), (10, .string (⟨#[49, 51, 50, 32, 50, 49, 51]⟩ : ByteArray)), (11, .string (⟨#[50, 51, 49, 32, 51, 49, 50]⟩ : ByteArray)), (12, .string (⟨#[49]⟩ : ByteArray)), (13, .string (⟨#[49, 50, 51, 32, 51, 50, 49]⟩ : ByteArray))]) ω1 fun (ρ2 : Sl) ω3 =>
  pr.call1 .str PP F.spec_l1Pick #[.pointer ρ0, Sl.v ρ2] ω3 fun (ρ4 : ByteArray) ω5 =>
  pr.call2 .sl .bool PP F.spec_ParseBasis #[.string ρ4] ω5 fun (ρ6 : Sl) (ρ7 : Bool) ω8 =>
  pr.call1 .bool PP F.spec_l1Once #[.pointer ρ0, vI 3] ω8 fun (ρ10 : Bool) ω11 =>
  bif ρ10 then (
  pr.call1 .sl PP F.spec_l12Bent #[.pointer ρ0] ω11 fun (ρ12 : Sl) ω13 =>
  J5 pr ρ0 ρ12 ω13 R)
  else (
  J5 pr ρ0 ρ6 ω11 R)) := by kernel_rfl
theorem E_s (code_0 : Sl) (w : World) (R : Ending → World → Prop) : E std code_0 w R = (
  call1 .ptr PP F.spec_l1New #[Sl.v code_0] w fun (ρ0 : (Option Addr)) ω1 =>
  sem1 .sl PP (Instr.buildSlice T_Sstring 14 #[(0, .string (⟨#[]⟩ : ByteArray)), (1, .string (⟨#[49, 50, 51]⟩ : ByteArray)), (2, .string (⟨#[49, 51, 50]⟩ : ByteArray)), (3, .string (⟨#[50, 49, 51]⟩ : ByteArray)), (4, .string (⟨#[50, 51, 49]⟩ : ByteArray)), (5, .string (⟨#[51, 49, 50]⟩ : ByteArray)), (6, .string (⟨#[51, 50, 49]⟩ : ByteArray)), (7, .string (⟨#[49, 50]⟩ : ByteArray)), (8, .string (⟨#[50, 49]⟩ : ByteArray)), (9, .string (⟨#[49, 50, 51, 32, 49, 51, 50]⟩ : ByteArray)), (10, .string (⟨#[49, 51, 50, 32, 50, 49, 51]⟩ : ByteArray)), (11, .string (⟨#[50, 51, 49, 32, 51, 49, 50]⟩ : ByteArray)), (12, .string (⟨#[49]⟩ : ByteArray)), (13, .string (⟨#[49, 50, 51, 32, 51, 50, 49]⟩ : ByteArray))]) ω1 fun (ρ2 : Sl) ω3 =>
  call1 .str PP F.spec_l1Pick #[.pointer ρ0, Sl.v ρ2] ω3 fun (ρ4 : ByteArray) ω5 =>
  call2 .sl .bool PP F.spec_ParseBasis #[.string ρ4] ω5 fun (ρ6 : Sl) (ρ7 : Bool) ω8 =>
  call1 .bool PP F.spec_l1Once #[.pointer ρ0, vI 3] ω8 fun (ρ10 : Bool) ω11 =>
  bif ρ10 then (
  call1 .sl PP F.spec_l12Bent #[.pointer ρ0] ω11 fun (ρ12 : Sl) ω13 =>
  J5 std ρ0 ρ12 ω13 R)
  else (
  J5 std ρ0 ρ6 ω11 R)) := E_eq std code_0 w R
theorem drawsOk : drawsOk PP cfg okD (codeOf Tryz.f5) = true := by kernel_rfl
theorem calls (code_0 : Sl) {w : World} {R : Ending → World → Prop} (h : E std code_0 w R) : Calls PP F.spec_DrawRuleUpTo #[Sl.v code_0] w R :=
  calls_of noCount mixed drawOk Tryz.func5 rfl (c := cfg) (args := [Sl.v code_0]) rfl (Nat.le_of_ble_eq_true (by kernel_rfl)) drawsOk h
end spec_DrawRuleUpTo

namespace spec_DrawChildLabels
@[reducible] def cfg : Cfg := ⟨13, [], [], [], [2, 3], [], [13, 12, 21, 89, 36, 108, 74, 75, 104, 78, 125], [73, 117, 103, 46, 4, 30, 40]⟩
def E (pr : Prims) (code_0 : Sl) (w : World) (R : Ending → World → Prop) : Prop :=
  wpC pr PP cfg (DD pr) (codeOf Tryz.f8) (retQ Tryz.f8.results.toList R) (argE 0 [Sl.v code_0]) w
theorem E_eq (pr : Prims) (code_0 : Sl) (w : World) (R : Ending → World → Prop) : E pr code_0 w R = (
  pr.call2 .sl .sl PP F.spec_l14Case #[Sl.v code_0] w fun (ρ0 : Sl) (ρ1 : Sl) ω2 =>
  R (.returned (.tuple #[Sl.v ρ0, Sl.v ρ1])) ω2) := by kernel_rfl
theorem E_s (code_0 : Sl) (w : World) (R : Ending → World → Prop) : E std code_0 w R = (
  call2 .sl .sl PP F.spec_l14Case #[Sl.v code_0] w fun (ρ0 : Sl) (ρ1 : Sl) ω2 =>
  R (.returned (.tuple #[Sl.v ρ0, Sl.v ρ1])) ω2) := E_eq std code_0 w R
theorem drawsOk : drawsOk PP cfg okD (codeOf Tryz.f8) = true := by kernel_rfl
theorem calls (code_0 : Sl) {w : World} {R : Ending → World → Prop} (h : E std code_0 w R) : Calls PP F.spec_DrawChildLabels #[Sl.v code_0] w R :=
  calls_of noCount mixed drawOk Tryz.func8 rfl (c := cfg) (args := [Sl.v code_0]) rfl (Nat.le_of_ble_eq_true (by kernel_rfl)) drawsOk h
end spec_DrawChildLabels

namespace spec_DrawLabelsAt
@[reducible] def cfg : Cfg := ⟨13, [], [], [], [2, 3], [], [13, 12, 21, 89, 36, 108, 74, 75, 104, 78, 125], [73, 117, 103, 46, 4, 30, 40]⟩
def E (pr : Prims) (code_0 : Sl) (w : World) (R : Ending → World → Prop) : Prop :=
  wpC pr PP cfg (DD pr) (codeOf Tryz.f9) (retQ Tryz.f9.results.toList R) (argE 0 [Sl.v code_0]) w
theorem E_eq (pr : Prims) (code_0 : Sl) (w : World) (R : Ending → World → Prop) : E pr code_0 w R = (
  pr.call2 .sl (.int .i64) PP F.spec_l12Case #[Sl.v code_0] w fun (ρ0 : Sl) (ρ1 : Int) ω2 =>
  R (.returned (.tuple #[Sl.v ρ0, vI ρ1])) ω2) := by kernel_rfl
theorem E_s (code_0 : Sl) (w : World) (R : Ending → World → Prop) : E std code_0 w R = (
  call2 .sl (.int .i64) PP F.spec_l12Case #[Sl.v code_0] w fun (ρ0 : Sl) (ρ1 : Int) ω2 =>
  R (.returned (.tuple #[Sl.v ρ0, vI ρ1])) ω2) := E_eq std code_0 w R
theorem drawsOk : drawsOk PP cfg okD (codeOf Tryz.f9) = true := by kernel_rfl
theorem calls (code_0 : Sl) {w : World} {R : Ending → World → Prop} (h : E std code_0 w R) : Calls PP F.spec_DrawLabelsAt #[Sl.v code_0] w R :=
  calls_of noCount mixed drawOk Tryz.func9 rfl (c := cfg) (args := [Sl.v code_0]) rfl (Nat.le_of_ble_eq_true (by kernel_rfl)) drawsOk h
end spec_DrawLabelsAt

namespace spec_DrawRuleCounts
@[reducible] def cfg : Cfg := ⟨35, [], [], [(5, [5, 6]), (7, [5, 6])], [2, 3, 4], [], [13, 12, 21, 89, 36, 108, 74, 75, 104, 78, 125], [73, 117, 103, 46, 4, 30, 40]⟩
def q14 (pr : Prims) (R : Ending → World → Prop) : Exit → Env → World → Prop := fun ex e w => normQ ex (fun e w => contE pr cfg (sub (codeOf Tryz.f10) [1, 1, 1, 1]) (fun e w => wpC pr PP cfg (DD pr) (sub (codeOf Tryz.f10) [1, 1, 1, 1]) (retQ Tryz.f10.results.toList R) e w) e w) (retQ Tryz.f10.results.toList R) e w
def q27 (pr : Prims) (R : Ending → World → Prop) : Exit → Env → World → Prop := fun ex e w => normQ ex (fun e w => contE pr cfg (sub (codeOf Tryz.f10) [1, 1, 1, 1, 1]) (fun e w => wpC pr PP cfg (DD pr) (sub (codeOf Tryz.f10) [1, 1, 1, 1, 1]) (retQ Tryz.f10.results.toList R) e w) e w) (retQ Tryz.f10.results.toList R) e w
def j5 (c_5 : (Option Addr)) (rule_6 : Sl) : Env := [(5, .pointer c_5), (6, Sl.v rule_6)]
def j7 (c_5 : (Option Addr)) (rule_6 : Sl) : Env := [(5, .pointer c_5), (6, Sl.v rule_6)]
def J7 (pr : Prims) (c_5 : (Option Addr)) (rule_6 : Sl) (w : World) (R : Ending → World → Prop) : Prop :=
  pr.seg (fun e w => wpC pr PP cfg (DD pr) (sub (codeOf Tryz.f10) [1, 1, 1, 1, 1]) (retQ Tryz.f10.results.toList R) e w) (j7 c_5 rule_6) w
def J5 (pr : Prims) (c_5 : (Option Addr)) (rule_6 : Sl) (w : World) (R : Ending → World → Prop) : Prop :=
  pr.seg (fun e w => wpC pr PP cfg (DD pr) (sub (codeOf Tryz.f10) [1, 1, 1, 1]) (retQ Tryz.f10.results.toList R) e w) (j5 c_5 rule_6) w
def E (pr : Prims) (code_0 : Sl) (w : World) (R : Ending → World → Prop) : Prop :=
  wpC pr PP cfg (DD pr) (codeOf Tryz.f10) (retQ Tryz.f10.results.toList R) (argE 0 [Sl.v code_0]) w
theorem J7_gen (pr : Prims) (c_5 : (Option Addr)) (rule_6 : Sl) (w : World) (R : Ending → World → Prop) : wpC pr PP cfg (DD pr) (sub (codeOf Tryz.f10) [1, 1, 1, 1, 1]) (retQ Tryz.f10.results.toList R) (j7 c_5 rule_6) w = (
  pr.call1 (.int .i64) PP F.spec_l1Below #[.pointer c_5, vI 5] w fun (ρ36 : Int) ω37 =>
  pr.sem1 .sl PP (Instr.buildSlice T_Sint 9 #[(0, vI 0), (1, vI 1), (2, vI 2), (3, vI 3), (4, vI 4), (5, vI 5), (6, vI 8), (7, vI 9), (8, vI (-1))]) ω37 fun (ρ38 : Sl) ω39 =>
  pr.call1 (.int .i64) PP F.spec_l1PickInt #[.pointer c_5, Sl.v ρ38] ω39 fun (ρ40 : Int) ω41 =>
  R (.returned (.tuple #[Sl.v rule_6, vI ρ36, vI ρ40])) ω41) := by kernel_rfl
theorem J7_s (c_5 : (Option Addr)) (rule_6 : Sl) (w : World) (R : Ending → World → Prop) : J7 std c_5 rule_6 w R = (
  call1 (.int .i64) PP F.spec_l1Below #[.pointer c_5, vI 5] w fun (ρ36 : Int) ω37 =>
  sem1 .sl PP (Instr.buildSlice T_Sint 9 #[(0, vI 0), (1, vI 1), (2, vI 2), (3, vI 3), (4, vI 4), (5, vI 5), (6, vI 8), (7, vI 9), (8, vI (-1))]) ω37 fun (ρ38 : Sl) ω39 =>
  call1 (.int .i64) PP F.spec_l1PickInt #[.pointer c_5, Sl.v ρ38] ω39 fun (ρ40 : Int) ω41 =>
  R (.returned (.tuple #[Sl.v rule_6, vI ρ36, vI ρ40])) ω41) := J7_gen std c_5 rule_6 w R
theorem J5_gen (pr : Prims) (c_5 : (Option Addr)) (rule_6 : Sl) (w : World) (R : Ending → World → Prop) : wpC pr PP cfg (DD pr) (sub (codeOf Tryz.f10) [1, 1, 1, 1]) (retQ Tryz.f10.results.toList R) (j5 c_5 rule_6) w = (
  pr.call1 .bool PP F.spec_l1Once #[.pointer c_5, vI 12] w fun (ρ28 : Bool) ω29 =>
  bif ρ28 then (
  pr.sem1 .sl PP (Instr.buildSlice T_Sint 0 #[]) ω29 fun (ρ30 : Sl) ω31 =>
  pr.sem1 .sl PP (Instr.buildSlice T_SSint 1 #[(0, Sl.v ρ30)]) ω31 fun (ρ32 : Sl) ω33 =>
  pr.sem1 .sl PP (Builtin.append_ #[T_SSint, T_SSint] T_SSint #[Sl.v rule_6, Sl.v ρ32]) ω33 fun (ρ34 : Sl) ω35 =>
  J7 pr c_5 ρ34 ω35 R)
  else (
  J7 pr c_5 rule_6 ω29 R)) := by kernel_rfl
theorem J5_s (c_5 : (Option Addr)) (rule_6 : Sl) (w : World) (R : Ending → World → Prop) : J5 std c_5 rule_6 w R = (
  call1 .bool PP F.spec_l1Once #[.pointer c_5, vI 12] w fun (ρ28 : Bool) ω29 =>
  bif ρ28 then (
  sem1 .sl PP (Instr.buildSlice T_Sint 0 #[]) ω29 fun (ρ30 : Sl) ω31 =>
  sem1 .sl PP (Instr.buildSlice T_SSint 1 #[(0, Sl.v ρ30)]) ω31 fun (ρ32 : Sl) ω33 =>
  sem1 .sl PP (Builtin.append_ #[T_SSint, T_SSint] T_SSint #[Sl.v rule_6, Sl.v ρ32]) ω33 fun (ρ34 : Sl) ω35 =>
  J7 std c_5 ρ34 ω35 R)
  else (
  J7 std c_5 rule_6 ω29 R)) := J5_gen std c_5 rule_6 w R
theorem E_eq (pr : Prims) (code_0 : Sl) (w : World) (R : Ending → World → Prop) : E pr code_0 w R = (
  pr.call1 .ptr PP F.spec_l1New #[Sl.v code_0] w fun (ρ0 : (Option Addr)) ω1 =>
  pr.sem1 .sl PP (Instr.buildSlice T_Sint 2 #[(0, vI 1), (1, vI 2)]) ω1 fun (ρ2 : Sl) ω3 =>
  pr.sem1 .sl PP (Instr.buildSlice T_Sint 3 #[(0, vI 2), (1, vI 2), (2, vI 3)]) ω3 fun (ρ4 : Sl) ω5 =>
  pr.sem1 .sl PP (Instr.buildSlice T_Sint 4 #[(0, vI 3), (1, vI 2), (2, vI 3), (3, vI 4)]) ω5 fun (ρ6 : Sl) ω7 =>
  pr.sem1 .sl PP (Instr.buildSlice T_Sint 5 #[(0, vI 4), (1, vI 2), (2, vI 3), (3, vI 4), (4, vI 5)]) ω7 fun (ρ8 : Sl) ω9 =>
  pr.sem1 .sl PP (Instr.buildSlice T_Sint 3 #[(0, vI 5), (1, vI 2), (2, vI 3)]) ω9 fun (ρ10 : Sl) ω11 =>
  pr.sem1 .sl PP (Instr.buildSlice T_SSint 5 #[(0, Sl.v ρ2), (1, Sl.v ρ4), (2, Sl.v ρ6), (3, Sl.v ρ8), (4, Sl.v ρ10)]) ω11 fun (ρ12 : Sl) ω13 =>
  pr.call1 .bool PP F.spec_l1Once #[.pointer ρ0, vI 3] ω13 fun (ρ15 : Bool) ω16 =>
  bif ρ15 then (
  pr.call1 (.int .i64) PP F.spec_l1Below #[.pointer ρ0, vI 4] ω16 fun (ρ17 : Int) ω18 =>
  pr.sem1 .sl PP (Instr.buildSlice T_Sint 2 #[(0, vI 1), (1, vI ρ17)]) ω18 fun (ρ19 : Sl) ω20 =>
  pr.sem1 .sl PP (Instr.buildSlice T_Sint 3 #[(0, vI 2), (1, vI 1), (2, vI 2)]) ω20 fun (ρ21 : Sl) ω22 =>
  pr.sem1 .sl PP (Instr.buildSlice T_Sint 1 #[(0, vI 3)]) ω22 fun (ρ23 : Sl) ω24 =>
  pr.sem1 .sl PP (Instr.buildSlice T_SSint 3 #[(0, Sl.v ρ19), (1, Sl.v ρ21), (2, Sl.v ρ23)]) ω24 fun (ρ25 : Sl) ω26 =>
  J5 pr ρ0 ρ25 ω26 R)
  else (
  J5 pr ρ0 ρ12 ω16 R)) := by kernel_rfl
theorem E_s (code_0 : Sl) (w : World) (R : Ending → World → Prop) : E std code_0 w R = (
  call1 .ptr PP F.spec_l1New #[Sl.v code_0] w fun (ρ0 : (Option Addr)) ω1 =>
  sem1 .sl PP (Instr.buildSlice T_Sint 2 #[(0, vI 1), (1, vI 2)]) ω1 fun (ρ2 : Sl) ω3 =>
  sem1 .sl PP (Instr.buildSlice T_Sint 3 #[(0, vI 2), (1, vI 2), (2, vI 3)]) ω3 fun (ρ4 : Sl) ω5 =>
  sem1 .sl PP (Instr.buildSlice T_Sint 4 #[(0, vI 3), (1, vI 2), (2, vI 3), (3, vI 4)]) ω5 fun (ρ6 : Sl) ω7 =>
  sem1 .sl PP (Instr.buildSlice T_Sint 5 #[(0, vI 4), (1, vI 2), (2, vI 3), (3, vI 4), (4, vI 5)]) ω7 fun (ρ8 : Sl) ω9 =>
  sem1 .sl PP (Instr.buildSlice T_Sint 3 #[(0, vI 5), (1, vI 2), (2, vI 3)]) ω9 fun (ρ10 : Sl) ω11 =>
  sem1 .sl PP (Instr.buildSlice T_SSint 5 #[(0, Sl.v ρ2), (1, Sl.v ρ4), (2, Sl.v ρ6), (3, Sl.v ρ8), (4, Sl.v ρ10)]) ω11 fun (ρ12 : Sl) ω13 =>
  call1 .bool PP F.spec_l1Once #[.pointer ρ0, vI 3] ω13 fun (ρ15 : Bool) ω16 =>
  bif ρ15 then (
  call1 (.int .i64) PP F.spec_l1Below #[.pointer ρ0, vI 4] ω16 fun (ρ17 : Int) ω18 =>
  sem1 .sl PP (Instr.buildSlice T_Sint 2 #[(0, vI 1), (1, vI ρ17)]) ω18 fun (ρ19 : Sl) ω20 =>
  sem1 .sl PP (Instr.buildSlice T_Sint 3 #[(0, vI 2), (1, vI 1), (2, vI 2)]) ω20 fun (ρ21 : Sl) ω22 =>
  sem1 .sl PP (Instr.buildSlice T_Sint 1 #[(0, vI 3)]) ω22 fun (ρ23 : Sl) ω24 =>
  sem1 .sl PP (Instr.buildSlice T_SSint 3 #[(0, Sl.v ρ19), (1, Sl.v ρ21), (2, Sl.v ρ23)]) ω24 fun (ρ25 : Sl) ω26 =>
  J5 std ρ0 ρ25 ω26 R)
  else (
  J5 std ρ0 ρ12 ω16 R)) := E_eq std code_0 w R
theorem drawsOk : drawsOk PP cfg okD (codeOf Tryz.f10) = true := by kernel_rfl
theorem calls (code_0 : Sl) {w : World} {R : Ending → World → Prop} (h : E std code_0 w R) : Calls PP F.spec_DrawRuleCounts #[Sl.v code_0] w R :=
  calls_of noCount mixed drawOk Tryz.func10 rfl (c := cfg) (args := [Sl.v code_0]) rfl (Nat.le_of_ble_eq_true (by kernel_rfl)) drawsOk h
end spec_DrawRuleCounts

namespace spec_ParseBasis
@[reducible] def cfg : Cfg := ⟨41, [(6, [4, 5, 6])], [(1, [4, 5, 6]), (0, [4])], [], [2, 3], [], [13, 12, 21, 89, 36, 108, 74, 75, 104, 78, 125], [73, 117, 103, 46, 4, 30, 40]⟩
def q4 (pr : Prims) (R : Ending → World → Prop) : Exit → Env → World → Prop := fun ex e w => normQ ex (fun e w => contE pr cfg (sub (codeOf Tryz.f25) [1, 1, 1, 1, 1]) (fun e w => wpC pr PP cfg (DD pr) (sub (codeOf Tryz.f25) [1, 1, 1, 1, 1]) (retQ Tryz.f25.results.toList R) e w) e w) (retQ Tryz.f25.results.toList R) e w
def q5 (pr : Prims) (R : Ending → World → Prop) : Exit → Env → World → Prop := fun ex e w => blockQ ex 0 (q4 pr R) e w
def emb6 (out_4 : Sl) (parts_5 : Sl) (k_6 : Int) : Env := [(4, Sl.v out_4), (5, Sl.v parts_5), (6, vI k_6)]
def x0 (out_4 : Sl) : Env := [(4, Sl.v out_4)]
def S6 (pr : Prims) (Q : Exit → Env → World → Prop) : (Env → World → Prop) → Env → World → Prop := fun k e w => wpC pr PP cfg (DD pr) (sub (codeOf Tryz.f25) [1, 1, 1, 1, 0, 1, 0, 0]) (fun ex e w => normQ ex (fun e' w' => k (Env.restr e' (lookN cfg.loops (keyOf (sub (codeOf Tryz.f25) [1, 1, 1, 1, 0, 1, 0, 0])))) w') Q e w) e w
def B6 (pr : Prims) (out_4 : Sl) (parts_5 : Sl) (k_6 : Int) (w : World) (k : Env → World → Prop) (Q : Exit → Env → World → Prop) : Prop :=
  S6 pr Q k (emb6 out_4 parts_5 k_6) w
def L6 (pr : Prims) (out_4 : Sl) (parts_5 : Sl) (k_6 : Int) (w : World) (Q : Exit → Env → World → Prop) : Prop :=
  pr.loop (S6 pr Q) (emb6 out_4 parts_5 k_6) w
def E (pr : Prims) (text_0 : ByteArray) (w : World) (R : Ending → World → Prop) : Prop :=
  wpC pr PP cfg (DD pr) (codeOf Tryz.f25) (retQ Tryz.f25.results.toList R) (argE 0 [.string text_0]) w
theorem B6_eq (pr : Prims) (out_4 : Sl) (parts_5 : Sl) (k_6 : Int) (w : World) (k : Env → World → Prop) (Q : Exit → Env → World → Prop) : B6 pr out_4 parts_5 k_6 w k Q = (
  bif decide (k_6 < (parts_5.n : Int)) then (
  pr.idxK 1 parts_5 k_6 fun (a6 : Addr) =>
  pr.load1 .str a6 w fun (ξ7 : ByteArray) =>
  pr.call2 .sl .bool PP F.spec_ParsePerm #[.string ξ7] w fun (ρ8 : Sl) (ρ9 : Bool) ω10 =>
  bif !ρ9 then (
  pr.sem1 .sl PP (Instr.buildSlice T_SSint 0 #[]) ω10 fun (ρ11 : Sl) ω12 =>
  Q .ret [(2, Sl.v ρ11), (3, .bool false)] ω12)
  else (
  pr.sem1 .sl PP (Instr.buildSlice T_SSint 1 #[(0, Sl.v ρ8)]) ω10 fun (ρ13 : Sl) ω14 =>
  pr.sem1 .sl PP (Builtin.append_ #[T_SSint, T_SSint] T_SSint #[Sl.v out_4, Sl.v ρ13]) ω14 fun (ρ15 : Sl) ω16 =>
  k (emb6 ρ15 parts_5 (w64 (k_6 + 1))) ω16))
  else (
  Q (.exit 0) (x0 out_4) w)) := by kernel_rfl
theorem B6_s (out_4 : Sl) (parts_5 : Sl) (k_6 : Int) (w : World) (k : Env → World → Prop) (Q : Exit → Env → World → Prop) : B6 std out_4 parts_5 k_6 w k Q = (
  bif decide (k_6 < (parts_5.n : Int)) then (
  idxK 1 parts_5 k_6 fun (a6 : Addr) =>
  load1 .str a6 w fun (ξ7 : ByteArray) =>
  call2 .sl .bool PP F.spec_ParsePerm #[.string ξ7] w fun (ρ8 : Sl) (ρ9 : Bool) ω10 =>
  bif !ρ9 then (
  sem1 .sl PP (Instr.buildSlice T_SSint 0 #[]) ω10 fun (ρ11 : Sl) ω12 =>
  Q .ret [(2, Sl.v ρ11), (3, .bool false)] ω12)
  else (
  sem1 .sl PP (Instr.buildSlice T_SSint 1 #[(0, Sl.v ρ8)]) ω10 fun (ρ13 : Sl) ω14 =>
  sem1 .sl PP (Builtin.append_ #[T_SSint, T_SSint] T_SSint #[Sl.v out_4, Sl.v ρ13]) ω14 fun (ρ15 : Sl) ω16 =>
  k (emb6 ρ15 parts_5 (w64 (k_6 + 1))) ω16))
  else (
  Q (.exit 0) (x0 out_4) w)) := B6_eq std out_4 parts_5 k_6 w k Q
theorem L6_rule (out_4 : Sl) (parts_5 : Sl) (k_6 : Int) (w : World) (Q : Exit → Env → World → Prop) (I : Sl → Int → World → Prop) (μ : Sl → Int → World → Nat) (h0 : I out_4 k_6 w)
    (h : ∀ (out_4 : Sl) (k_6 : Int) (w' : World), I out_4 k_6 w' → B6 std out_4 parts_5 k_6 w' (fun e2 w2 => ∃ out_4_n k_6_n, e2 = emb6 out_4_n parts_5 k_6_n ∧ I out_4_n k_6_n w2 ∧ μ out_4_n k_6_n w2 < μ out_4 k_6 w') Q) :
    L6 std out_4 parts_5 k_6 w Q := by
  unfold L6
  refine LoopE.intro (σ := Sl × Int) (step := S6 std Q) (fun s => emb6 s.1 parts_5 s.2) (fun s w => I s.1 s.2 w) (fun s w => μ s.1 s.2 w) (out_4, k_6) rfl h0 ?_
  intro s w' hI
  have h1 := h s.1 s.2 w' hI
  unfold B6 at h1
  simp only [Prod.exists]
  exact h1
theorem A6_0_eq (pr : Prims) (out_4 : Sl) (w : World) (R : Ending → World → Prop) : (q5 pr R) (.exit 0) (x0 out_4) w = (
  pr.call1 .bool PP F.spec_IsBasis #[Sl.v out_4] w fun (ρ17 : Bool) ω18 =>
  bif !ρ17 then (
  pr.sem1 .sl PP (Instr.buildSlice T_SSint 0 #[]) ω18 fun (ρ19 : Sl) ω20 =>
  R (.returned (.tuple #[Sl.v ρ19, .bool false])) ω20)
  else (
  R (.returned (.tuple #[Sl.v out_4, .bool true])) ω18)) := by kernel_rfl
theorem A6_0_s (out_4 : Sl) (w : World) (R : Ending → World → Prop) : (q5 std R) (.exit 0) (x0 out_4) w = (
  call1 .bool PP F.spec_IsBasis #[Sl.v out_4] w fun (ρ17 : Bool) ω18 =>
  bif !ρ17 then (
  sem1 .sl PP (Instr.buildSlice T_SSint 0 #[]) ω18 fun (ρ19 : Sl) ω20 =>
  R (.returned (.tuple #[Sl.v ρ19, .bool false])) ω20)
  else (
  R (.returned (.tuple #[Sl.v out_4, .bool true])) ω18)) := A6_0_eq std out_4 w R
theorem R6_eq (pr : Prims) (v2 : Value) (v3 : Value) (w : World) (R : Ending → World → Prop) : (q5 pr R) .ret [(2, v2), (3, v3)] w = (
  R (.returned (.tuple #[v2, v3])) w) := by kernel_rfl
theorem R6_s (v2 : Value) (v3 : Value) (w : World) (R : Ending → World → Prop) : (q5 std R) .ret [(2, v2), (3, v3)] w = (
  R (.returned (.tuple #[v2, v3])) w) := R6_eq std v2 v3 w R
theorem E_eq (pr : Prims) (text_0 : ByteArray) (w : World) (R : Ending → World → Prop) : E pr text_0 w R = (
  pr.sem1 .sl PP (Instr.buildSlice T_SSint 0 #[]) w fun (ρ0 : Sl) ω1 =>
  bif text_0.toList == (⟨#[]⟩ : ByteArray).toList then (
  R (.returned (.tuple #[Sl.v ρ0, .bool true])) ω1)
  else (
  pr.call1 .sl PP F.spec_SplitByte #[.string text_0, .int .u8 32] ω1 fun (ρ2 : Sl) ω3 =>
  L6 pr ρ0 ρ2 0 ω3 (q5 pr R))) := by kernel_rfl
theorem E_s (text_0 : ByteArray) (w : World) (R : Ending → World → Prop) : E std text_0 w R = (
  sem1 .sl PP (Instr.buildSlice T_SSint 0 #[]) w fun (ρ0 : Sl) ω1 =>
  bif text_0.toList == (⟨#[]⟩ : ByteArray).toList then (
  R (.returned (.tuple #[Sl.v ρ0, .bool true])) ω1)
  else (
  call1 .sl PP F.spec_SplitByte #[.string text_0, .int .u8 32] ω1 fun (ρ2 : Sl) ω3 =>
  L6 std ρ0 ρ2 0 ω3 (q5 std R))) := E_eq std text_0 w R
theorem drawsOk : drawsOk PP cfg okD (codeOf Tryz.f25) = true := by kernel_rfl
theorem calls (text_0 : ByteArray) {w : World} {R : Ending → World → Prop} (h : E std text_0 w R) : Calls PP F.spec_ParseBasis #[.string text_0] w R :=
  calls_of noCount mixed drawOk Tryz.func25 rfl (c := cfg) (args := [.string text_0]) rfl (Nat.le_of_ble_eq_true (by kernel_rfl)) drawsOk h
end spec_ParseBasis

namespace spec_ParsePerm
@[reducible] def cfg : Cfg := ⟨33, [(5, [0, 4, 5])], [(1, [0, 4, 5]), (0, [0, 4])], [], [2, 3], [], [13, 12, 21, 89, 36, 108, 74, 75, 104, 78, 125], [73, 117, 103, 46, 4, 30, 40]⟩
def q2 (pr : Prims) (R : Ending → World → Prop) : Exit → Env → World → Prop := fun ex e w => normQ ex (fun e w => contE pr cfg (sub (codeOf Tryz.f60) [1, 1, 1, 1]) (fun e w => wpC pr PP cfg (DD pr) (sub (codeOf Tryz.f60) [1, 1, 1, 1]) (retQ Tryz.f60.results.toList R) e w) e w) (retQ Tryz.f60.results.toList R) e w
def q3 (pr : Prims) (R : Ending → World → Prop) : Exit → Env → World → Prop := fun ex e w => blockQ ex 0 (q2 pr R) e w
def emb5 (text_0 : ByteArray) (p_4 : Sl) (k_5 : Int) : Env := [(0, .string text_0), (4, Sl.v p_4), (5, vI k_5)]
def x0 (text_0 : ByteArray) (p_4 : Sl) : Env := [(0, .string text_0), (4, Sl.v p_4)]
def S5 (pr : Prims) (Q : Exit → Env → World → Prop) : (Env → World → Prop) → Env → World → Prop := fun k e w => wpC pr PP cfg (DD pr) (sub (codeOf Tryz.f60) [1, 1, 1, 0, 1, 0, 0]) (fun ex e w => normQ ex (fun e' w' => k (Env.restr e' (lookN cfg.loops (keyOf (sub (codeOf Tryz.f60) [1, 1, 1, 0, 1, 0, 0])))) w') Q e w) e w
def B5 (pr : Prims) (text_0 : ByteArray) (p_4 : Sl) (k_5 : Int) (w : World) (k : Env → World → Prop) (Q : Exit → Env → World → Prop) : Prop :=
  S5 pr Q k (emb5 text_0 p_4 k_5) w
def L5 (pr : Prims) (text_0 : ByteArray) (p_4 : Sl) (k_5 : Int) (w : World) (Q : Exit → Env → World → Prop) : Prop :=
  pr.loop (S5 pr Q) (emb5 text_0 p_4 k_5) w
def E (pr : Prims) (text_0 : ByteArray) (w : World) (R : Ending → World → Prop) : Prop :=
  wpC pr PP cfg (DD pr) (codeOf Tryz.f60) (retQ Tryz.f60.results.toList R) (argE 0 [.string text_0]) w
theorem B5_eq (pr : Prims) (text_0 : ByteArray) (p_4 : Sl) (k_5 : Int) (w : World) (k : Env → World → Prop) (Q : Exit → Env → World → Prop) : B5 pr text_0 p_4 k_5 w k Q = (
  bif decide (k_5 < (text_0.size : Int)) then (
  pr.strIdxK text_0 k_5 fun (b4 : Int) =>
  pr.sem1 .sl PP (Instr.buildSlice T_Sint 1 #[(0, vI (w64 ((w64 (b4)) - 48)))]) w fun (ρ5 : Sl) ω6 =>
  pr.sem1 .sl PP (Builtin.append_ #[T_Sint, T_Sint] T_Sint #[Sl.v p_4, Sl.v ρ5]) ω6 fun (ρ7 : Sl) ω8 =>
  k (emb5 text_0 ρ7 (w64 (k_5 + 1))) ω8)
  else (
  Q (.exit 0) (x0 text_0 p_4) w)) := by kernel_rfl
theorem B5_s (text_0 : ByteArray) (p_4 : Sl) (k_5 : Int) (w : World) (k : Env → World → Prop) (Q : Exit → Env → World → Prop) : B5 std text_0 p_4 k_5 w k Q = (
  bif decide (k_5 < (text_0.size : Int)) then (
  strIdxK text_0 k_5 fun (b4 : Int) =>
  sem1 .sl PP (Instr.buildSlice T_Sint 1 #[(0, vI (w64 ((w64 (b4)) - 48)))]) w fun (ρ5 : Sl) ω6 =>
  sem1 .sl PP (Builtin.append_ #[T_Sint, T_Sint] T_Sint #[Sl.v p_4, Sl.v ρ5]) ω6 fun (ρ7 : Sl) ω8 =>
  k (emb5 text_0 ρ7 (w64 (k_5 + 1))) ω8)
  else (
  Q (.exit 0) (x0 text_0 p_4) w)) := B5_eq std text_0 p_4 k_5 w k Q
theorem L5_rule (text_0 : ByteArray) (p_4 : Sl) (k_5 : Int) (w : World) (Q : Exit → Env → World → Prop) (I : Sl → Int → World → Prop) (μ : Sl → Int → World → Nat) (h0 : I p_4 k_5 w)
    (h : ∀ (p_4 : Sl) (k_5 : Int) (w' : World), I p_4 k_5 w' → B5 std text_0 p_4 k_5 w' (fun e2 w2 => ∃ p_4_n k_5_n, e2 = emb5 text_0 p_4_n k_5_n ∧ I p_4_n k_5_n w2 ∧ μ p_4_n k_5_n w2 < μ p_4 k_5 w') Q) :
    L5 std text_0 p_4 k_5 w Q := by
  unfold L5
  refine LoopE.intro (σ := Sl × Int) (step := S5 std Q) (fun s => emb5 text_0 s.1 s.2) (fun s w => I s.1 s.2 w) (fun s w => μ s.1 s.2 w) (p_4, k_5) rfl h0 ?_
  intro s w' hI
  have h1 := h s.1 s.2 w' hI
  unfold B5 at h1
  simp only [Prod.exists]
  exact h1
theorem A5_0_eq (pr : Prims) (text_0 : ByteArray) (p_4 : Sl) (w : World) (R : Ending → World → Prop) : (q3 pr R) (.exit 0) (x0 text_0 p_4) w = (
  bif text_0.toList == (⟨#[]⟩ : ByteArray).toList then (
  pr.sem1 .sl PP (Instr.buildSlice T_Sint 0 #[]) w fun (ρ9 : Sl) ω10 =>
  R (.returned (.tuple #[Sl.v ρ9, .bool false])) ω10)
  else (
  pr.call1 .bool PP F.spec_IsPerm #[Sl.v p_4] w fun (ρ11 : Bool) ω12 =>
  bif !ρ11 then (
  pr.sem1 .sl PP (Instr.buildSlice T_Sint 0 #[]) ω12 fun (ρ13 : Sl) ω14 =>
  R (.returned (.tuple #[Sl.v ρ13, .bool false])) ω14)
  else (
  R (.returned (.tuple #[Sl.v p_4, .bool true])) ω12))) := by kernel_rfl
theorem A5_0_s (text_0 : ByteArray) (p_4 : Sl) (w : World) (R : Ending → World → Prop) : (q3 std R) (.exit 0) (x0 text_0 p_4) w = (
  bif text_0.toList == (⟨#[]⟩ : ByteArray).toList then (
  sem1 .sl PP (Instr.buildSlice T_Sint 0 #[]) w fun (ρ9 : Sl) ω10 =>
  R (.returned (.tuple #[Sl.v ρ9, .bool false])) ω10)
  else (
  call1 .bool PP F.spec_IsPerm #[Sl.v p_4] w fun (ρ11 : Bool) ω12 =>
  bif !ρ11 then (
  sem1 .sl PP (Instr.buildSlice T_Sint 0 #[]) ω12 fun (ρ13 : Sl) ω14 =>
  R (.returned (.tuple #[Sl.v ρ13, .bool false])) ω14)
  else (
  R (.returned (.tuple #[Sl.v p_4, .bool true])) ω12))) := A5_0_eq std text_0 p_4 w R
theorem E_eq (pr : Prims) (text_0 : ByteArray) (w : World) (R : Ending → World → Prop) : E pr text_0 w R = (
  pr.sem1 .sl PP (Instr.buildSlice T_Sint 0 #[]) w fun (ρ0 : Sl) ω1 =>
  bif text_0.toList == (⟨#[45]⟩ : ByteArray).toList then (
  R (.returned (.tuple #[Sl.v ρ0, .bool true])) ω1)
  else (
  L5 pr text_0 ρ0 0 ω1 (q3 pr R))) := by kernel_rfl
theorem E_s (text_0 : ByteArray) (w : World) (R : Ending → World → Prop) : E std text_0 w R = (
  sem1 .sl PP (Instr.buildSlice T_Sint 0 #[]) w fun (ρ0 : Sl) ω1 =>
  bif text_0.toList == (⟨#[45]⟩ : ByteArray).toList then (
  R (.returned (.tuple #[Sl.v ρ0, .bool true])) ω1)
  else (
  L5 std text_0 ρ0 0 ω1 (q3 std R))) := E_eq std text_0 w R
theorem drawsOk : drawsOk PP cfg okD (codeOf Tryz.f60) = true := by kernel_rfl
theorem calls (text_0 : ByteArray) {w : World} {R : Ending → World → Prop} (h : E std text_0 w R) : Calls PP F.spec_ParsePerm #[.string text_0] w R :=
  calls_of noCount mixed drawOk Tryz.func60 rfl (c := cfg) (args := [.string text_0]) rfl (Nat.le_of_ble_eq_true (by kernel_rfl)) drawsOk h
end spec_ParsePerm

namespace spec_SplitByte
@[reducible] def cfg : Cfg := ⟨36, [(4, [0, 1, 5, 6, 7])], [(1, [0, 1, 5, 6, 7]), (0, [5])], [], [4], [], [13, 12, 21, 89, 36, 108, 74, 75, 104, 78, 125], [73, 117, 103, 46, 4, 30, 40]⟩
def q2 (pr : Prims) (R : Ending → World → Prop) : Exit → Env → World → Prop := fun ex e w => normQ ex (fun e w => contE pr cfg (sub (codeOf Tryz.f59) [1, 1, 1, 1]) (fun e w => wpC pr PP cfg (DD pr) (sub (codeOf Tryz.f59) [1, 1, 1, 1]) (retQ Tryz.f59.results.toList R) e w) e w) (retQ Tryz.f59.results.toList R) e w
def q3 (pr : Prims) (R : Ending → World → Prop) : Exit → Env → World → Prop := fun ex e w => blockQ ex 0 (q2 pr R) e w
def emb4 (s_0 : ByteArray) (by_1 : Int) (out_5 : Sl) (from_6 : Int) (i_7 : Int) : Env := [(0, .string s_0), (1, .int .u8 by_1), (5, Sl.v out_5), (6, vI from_6), (7, vI i_7)]
def x0 (out_5 : Sl) : Env := [(5, Sl.v out_5)]
def S4 (pr : Prims) (Q : Exit → Env → World → Prop) : (Env → World → Prop) → Env → World → Prop := fun k e w => wpC pr PP cfg (DD pr) (sub (codeOf Tryz.f59) [1, 1, 1, 0, 1, 0, 0]) (fun ex e w => normQ ex (fun e' w' => k (Env.restr e' (lookN cfg.loops (keyOf (sub (codeOf Tryz.f59) [1, 1, 1, 0, 1, 0, 0])))) w') Q e w) e w
def B4 (pr : Prims) (s_0 : ByteArray) (by_1 : Int) (out_5 : Sl) (from_6 : Int) (i_7 : Int) (w : World) (k : Env → World → Prop) (Q : Exit → Env → World → Prop) : Prop :=
  S4 pr Q k (emb4 s_0 by_1 out_5 from_6 i_7) w
def L4 (pr : Prims) (s_0 : ByteArray) (by_1 : Int) (out_5 : Sl) (from_6 : Int) (i_7 : Int) (w : World) (Q : Exit → Env → World → Prop) : Prop :=
  pr.loop (S4 pr Q) (emb4 s_0 by_1 out_5 from_6 i_7) w
def E (pr : Prims) (s_0 : ByteArray) (by_1 : Int) (w : World) (R : Ending → World → Prop) : Prop :=
  wpC pr PP cfg (DD pr) (codeOf Tryz.f59) (retQ Tryz.f59.results.toList R) (argE 0 [.string s_0, .int .u8 by_1]) w
theorem B4_eq (pr : Prims) (s_0 : ByteArray) (by_1 : Int) (out_5 : Sl) (from_6 : Int) (i_7 : Int) (w : World) (k : Env → World → Prop) (Q : Exit → Env → World → Prop) : B4 pr s_0 by_1 out_5 from_6 i_7 w k Q = (
  bif decide (i_7 ≤ (s_0.size : Int)) then (
  bif i_7 == (s_0.size : Int) then (
  pr.strCutK s_0 (some from_6) (some i_7) fun (s4 : ByteArray) =>
  pr.sem1 .sl PP (Instr.buildSlice T_Sstring 1 #[(0, .string s4)]) w fun (ρ5 : Sl) ω6 =>
  pr.sem1 .sl PP (Builtin.append_ #[T_Sstring, T_Sstring] T_Sstring #[Sl.v out_5, Sl.v ρ5]) ω6 fun (ρ7 : Sl) ω8 =>
  k (emb4 s_0 by_1 ρ7 (w64 (i_7 + 1)) (w64 (i_7 + 1))) ω8)
  else (
  pr.strIdxK s_0 i_7 fun (b9 : Int) =>
  bif b9 == by_1 then (
  pr.strCutK s_0 (some from_6) (some i_7) fun (s10 : ByteArray) =>
  pr.sem1 .sl PP (Instr.buildSlice T_Sstring 1 #[(0, .string s10)]) w fun (ρ11 : Sl) ω12 =>
  pr.sem1 .sl PP (Builtin.append_ #[T_Sstring, T_Sstring] T_Sstring #[Sl.v out_5, Sl.v ρ11]) ω12 fun (ρ13 : Sl) ω14 =>
  k (emb4 s_0 by_1 ρ13 (w64 (i_7 + 1)) (w64 (i_7 + 1))) ω14)
  else (
  k (emb4 s_0 by_1 out_5 from_6 (w64 (i_7 + 1))) w)))
  else (
  Q (.exit 0) (x0 out_5) w)) := by kernel_rfl
theorem B4_s (s_0 : ByteArray) (by_1 : Int) (out_5 : Sl) (from_6 : Int) (i_7 : Int) (w : World) (k : Env → World → Prop) (Q : Exit → Env → World → Prop) : B4 std s_0 by_1 out_5 from_6 i_7 w k Q = (
  bif decide (i_7 ≤ (s_0.size : Int)) then (
  bif i_7 == (s_0.size : Int) then (
  strCutK s_0 (some from_6) (some i_7) fun (s4 : ByteArray) =>
  sem1 .sl PP (Instr.buildSlice T_Sstring 1 #[(0, .string s4)]) w fun (ρ5 : Sl) ω6 =>
  sem1 .sl PP (Builtin.append_ #[T_Sstring, T_Sstring] T_Sstring #[Sl.v out_5, Sl.v ρ5]) ω6 fun (ρ7 : Sl) ω8 =>
  k (emb4 s_0 by_1 ρ7 (w64 (i_7 + 1)) (w64 (i_7 + 1))) ω8)
  else (
  strIdxK s_0 i_7 fun (b9 : Int) =>
  bif b9 == by_1 then (
  strCutK s_0 (some from_6) (some i_7) fun (s10 : ByteArray) =>
  sem1 .sl PP (Instr.buildSlice T_Sstring 1 #[(0, .string s10)]) w fun (ρ11 : Sl) ω12 =>
  sem1 .sl PP (Builtin.append_ #[T_Sstring, T_Sstring] T_Sstring #[Sl.v out_5, Sl.v ρ11]) ω12 fun (ρ13 : Sl) ω14 =>
  k (emb4 s_0 by_1 ρ13 (w64 (i_7 + 1)) (w64 (i_7 + 1))) ω14)
  else (
  k (emb4 s_0 by_1 out_5 from_6 (w64 (i_7 + 1))) w)))
  else (
  Q (.exit 0) (x0 out_5) w)) := B4_eq std s_0 by_1 out_5 from_6 i_7 w k Q
theorem L4_rule (s_0 : ByteArray) (by_1 : Int) (out_5 : Sl) (from_6 : Int) (i_7 : Int) (w : World) (Q : Exit → Env → World → Prop) (I : Sl → Int → Int → World → Prop) (μ : Sl → Int → Int → World → Nat) (h0 : I out_5 from_6 i_7 w)
    (h : ∀ (out_5 : Sl) (from_6 : Int) (i_7 : Int) (w' : World), I out_5 from_6 i_7 w' → B4 std s_0 by_1 out_5 from_6 i_7 w' (fun e2 w2 => ∃ out_5_n from_6_n i_7_n, e2 = emb4 s_0 by_1 out_5_n from_6_n i_7_n ∧ I out_5_n from_6_n i_7_n w2 ∧ μ out_5_n from_6_n i_7_n w2 < μ out_5 from_6 i_7 w') Q) :
    L4 std s_0 by_1 out_5 from_6 i_7 w Q := by
  unfold L4
  refine LoopE.intro (σ := Sl × Int × Int) (step := S4 std Q) (fun s => emb4 s_0 by_1 s.1 s.2.1 s.2.2) (fun s w => I s.1 s.2.1 s.2.2 w) (fun s w => μ s.1 s.2.1 s.2.2 w) (out_5, from_6, i_7) rfl h0 ?_
  intro s w' hI
  have h1 := h s.1 s.2.1 s.2.2 w' hI
  unfold B4 at h1
  simp only [Prod.exists]
  exact h1
theorem A4_0_eq (pr : Prims) (out_5 : Sl) (w : World) (R : Ending → World → Prop) : (q3 pr R) (.exit 0) (x0 out_5) w = (
  R (.returned (Sl.v out_5)) w) := by kernel_rfl
theorem A4_0_s (out_5 : Sl) (w : World) (R : Ending → World → Prop) : (q3 std R) (.exit 0) (x0 out_5) w = (
  R (.returned (Sl.v out_5)) w) := A4_0_eq std out_5 w R
theorem E_eq (pr : Prims) (s_0 : ByteArray) (by_1 : Int) (w : World) (R : Ending → World → Prop) : E pr s_0 by_1 w R = (
  pr.sem1 .sl PP (Instr.buildSlice T_Sstring 0 #[]) w fun (ρ0 : Sl) ω1 =>
  L4 pr s_0 by_1 ρ0 0 0 ω1 (q3 pr R)) := by kernel_rfl
theorem E_s (s_0 : ByteArray) (by_1 : Int) (w : World) (R : Ending → World → Prop) : E std s_0 by_1 w R = (
  sem1 .sl PP (Instr.buildSlice T_Sstring 0 #[]) w fun (ρ0 : Sl) ω1 =>
  L4 std s_0 by_1 ρ0 0 0 ω1 (q3 std R)) := E_eq std s_0 by_1 w R
theorem drawsOk : drawsOk PP cfg okD (codeOf Tryz.f59) = true := by kernel_rfl
theorem calls (s_0 : ByteArray) (by_1 : Int) {w : World} {R : Ending → World → Prop} (h : E std s_0 by_1 w R) : Calls PP F.spec_SplitByte #[.string s_0, .int .u8 by_1] w R :=
  calls_of noCount mixed drawOk Tryz.func59 rfl (c := cfg) (args := [.string s_0, .int .u8 by_1]) rfl (Nat.le_of_ble_eq_true (by kernel_rfl)) drawsOk h
end spec_SplitByte

end Go.Proofs.YteplokddaebbeaaGreat

/- What each function does, step by step, written by a program (Gen.lean); each equation is checked by the kernel. -/
namespace Go.Proofs.YteplokddaebbeaaGreat
open Go
set_option linter.unusedVariables false
set_option maxRecDepth 100000
namespace spec_l1Pick
@[reducible] def cfg : Cfg := ⟨12, [], [], [], [4], [], [13, 12, 21, 89, 36, 108, 74, 75, 104, 78, 125], [73, 117, 103, 46, 4, 30, 40]⟩
def E (pr : Prims) (c_0 : Addr) (list_1 : Sl) (w : World) (R : Ending → World → Prop) : Prop :=
  wpC pr PP cfg (DD pr) (codeOf Tryz.f26) (retQ Tryz.f26.results.toList R) (argE 0 [.pointer (some c_0), Sl.v list_1]) w
theorem E_eq (pr : Prims) (c_0 : Addr) (list_1 : Sl) (w : World) (R : Ending → World → Prop) : E pr c_0 list_1 w R = (
  pr.call1 (.int .i64) PP F.spec_l1Below #[.pointer (some c_0), vI (list_1.n : Int)] w fun (ρ0 : Int) ω1 =>
  pr.idxK 1 list_1 ρ0 fun (a2 : Addr) =>
  pr.load1 .str a2 ω1 fun (ξ3 : ByteArray) =>
  R (.returned (.string ξ3)) ω1) := by kernel_rfl
theorem E_s (c_0 : Addr) (list_1 : Sl) (w : World) (R : Ending → World → Prop) : E std c_0 list_1 w R = (
  call1 (.int .i64) PP F.spec_l1Below #[.pointer (some c_0), vI (list_1.n : Int)] w fun (ρ0 : Int) ω1 =>
  idxK 1 list_1 ρ0 fun (a2 : Addr) =>
  load1 .str a2 ω1 fun (ξ3 : ByteArray) =>
  R (.returned (.string ξ3)) ω1) := E_eq std c_0 list_1 w R
theorem drawsOk : drawsOk PP cfg okD (codeOf Tryz.f26) = true := by kernel_rfl
theorem calls (c_0 : Addr) (list_1 : Sl) {w : World} {R : Ending → World → Prop} (h : E std c_0 list_1 w R) : Calls PP F.spec_l1Pick #[.pointer (some c_0), Sl.v list_1] w R :=
  calls_of noCount mixed drawOk Tryz.func26 rfl (c := cfg) (args := [.pointer (some c_0), Sl.v list_1]) rfl (Nat.le_of_ble_eq_true (by kernel_rfl)) drawsOk h
end spec_l1Pick

end Go.Proofs.YteplokddaebbeaaGreat

/- What each function does, step by step, written by a program (Gen.lean); each equation is checked by the kernel. -/
namespace Go.Proofs.YteplokddaebbeaaGreat
open Go
set_option linter.unusedVariables false
set_option maxRecDepth 100000
namespace spec_l14Case
@[reducible] def cfg : Cfg := ⟨34, [], [], [], [2, 3], [], [13, 12, 21, 89, 36, 108, 74, 75, 104, 78, 125], [73, 117, 103, 46, 4, 30, 40]⟩
def E (pr : Prims) (code_0 : Sl) (w : World) (R : Ending → World → Prop) : Prop :=
  wpC pr PP cfg (DD pr) (codeOf Tryz.f43) (retQ Tryz.f43.results.toList R) (argE 0 [Sl.v code_0]) w
theorem E_eq (pr : Prims) (code_0 : Sl) (w : World) (R : Ending → World → Prop) : E pr code_0 w R = (
  pr.call1 .ptr PP F.spec_l1New #[Sl.v code_0] w fun (ρ0 : (Option Addr)) ω1 =>
  pr.call1 .sl PP F.spec_l12Bent #[.pointer ρ0] ω1 fun (ρ2 : Sl) ω3 =>
  pr.call1 (.int .i64) PP F.spec_l1Below #[.pointer ρ0, vI 5] ω3 fun (ρ4 : Int) ω5 =>
  pr.call1 .sl PP F.spec_ClassOf #[Sl.v ρ2, vI ρ4] ω5 fun (ρ6 : Sl) ω7 =>
  bif decide ((ρ6.n : Int) > 0) then (
  pr.call1 .bool PP F.spec_l1Once #[.pointer ρ0, vI 4] ω7 fun (ρ8 : Bool) ω9 =>
  bif !ρ8 then (
  pr.drewAll ω9 fun ω10 =>
  pr.call1 (.int .i64) PP F.spec_l1Below #[.pointer ρ0, vI (ρ6.n : Int)] ω10 fun (ρ11 : Int) ω12 =>
  pr.idxK 1 ρ6 ρ11 fun (a13 : Addr) =>
  pr.load1 .sl a13 ω12 fun (ξ14 : Sl) =>
  R (.returned (.tuple #[Sl.v ρ2, Sl.v ξ14])) ω12)
  else (
  pr.call1 .sl PP F.spec_l2Bent #[.pointer ρ0] ω9 fun (ρ15 : Sl) ω16 =>
  R (.returned (.tuple #[Sl.v ρ2, Sl.v ρ15])) ω16))
  else (
  pr.call1 .sl PP F.spec_l2Bent #[.pointer ρ0] ω7 fun (ρ17 : Sl) ω18 =>
  R (.returned (.tuple #[Sl.v ρ2, Sl.v ρ17])) ω18)) := by kernel_rfl
theorem E_s (code_0 : Sl) (w : World) (R : Ending → World → Prop) : E std code_0 w R = (
  call1 .ptr PP F.spec_l1New #[Sl.v code_0] w fun (ρ0 : (Option Addr)) ω1 =>
  call1 .sl PP F.spec_l12Bent #[.pointer ρ0] ω1 fun (ρ2 : Sl) ω3 =>
  call1 (.int .i64) PP F.spec_l1Below #[.pointer ρ0, vI 5] ω3 fun (ρ4 : Int) ω5 =>
  call1 .sl PP F.spec_ClassOf #[Sl.v ρ2, vI ρ4] ω5 fun (ρ6 : Sl) ω7 =>
  bif decide ((ρ6.n : Int) > 0) then (
  call1 .bool PP F.spec_l1Once #[.pointer ρ0, vI 4] ω7 fun (ρ8 : Bool) ω9 =>
  bif !ρ8 then (
  drewAll ω9 fun ω10 =>
  call1 (.int .i64) PP F.spec_l1Below #[.pointer ρ0, vI (ρ6.n : Int)] ω10 fun (ρ11 : Int) ω12 =>
  idxK 1 ρ6 ρ11 fun (a13 : Addr) =>
  load1 .sl a13 ω12 fun (ξ14 : Sl) =>
  R (.returned (.tuple #[Sl.v ρ2, Sl.v ξ14])) ω12)
  else (
  call1 .sl PP F.spec_l2Bent #[.pointer ρ0] ω9 fun (ρ15 : Sl) ω16 =>
  R (.returned (.tuple #[Sl.v ρ2, Sl.v ρ15])) ω16))
  else (
  call1 .sl PP F.spec_l2Bent #[.pointer ρ0] ω7 fun (ρ17 : Sl) ω18 =>
  R (.returned (.tuple #[Sl.v ρ2, Sl.v ρ17])) ω18)) := E_eq std code_0 w R
theorem drawsOk : drawsOk PP cfg okD (codeOf Tryz.f43) = true := by kernel_rfl
theorem calls (code_0 : Sl) {w : World} {R : Ending → World → Prop} (h : E std code_0 w R) : Calls PP F.spec_l14Case #[Sl.v code_0] w R :=
  calls_of noCount mixed drawOk Tryz.func43 rfl (c := cfg) (args := [Sl.v code_0]) rfl (Nat.le_of_ble_eq_true (by kernel_rfl)) drawsOk h
end spec_l14Case

namespace spec_l12Case
@[reducible] def cfg : Cfg := ⟨14, [], [], [], [2, 3], [], [13, 12, 21, 89, 36, 108, 74, 75, 104, 78, 125], [73, 117, 103, 46, 4, 30, 40]⟩
def E (pr : Prims) (code_0 : Sl) (w : World) (R : Ending → World → Prop) : Prop :=
  wpC pr PP cfg (DD pr) (codeOf Tryz.f44) (retQ Tryz.f44.results.toList R) (argE 0 [Sl.v code_0]) w
theorem E_eq (pr : Prims) (code_0 : Sl) (w : World) (R : Ending → World → Prop) : E pr code_0 w R = (
  pr.call1 .ptr PP F.spec_l1New #[Sl.v code_0] w fun (ρ0 : (Option Addr)) ω1 =>
  pr.call1 .sl PP F.spec_l12Bent #[.pointer ρ0] ω1 fun (ρ2 : Sl) ω3 =>
  pr.sem1 .sl PP (Instr.buildSlice T_Sint 10 #[(0, vI 0), (1, vI 1), (2, vI 2), (3, vI 3), (4, vI 4), (5, vI 5), (6, vI 4), (7, vI 5), (8, vI 7), (9, vI (-1))]) ω3 fun (ρ4 : Sl) ω5 =>
  pr.call1 (.int .i64) PP F.spec_l1PickInt #[.pointer ρ0, Sl.v ρ4] ω5 fun (ρ6 : Int) ω7 =>
  R (.returned (.tuple #[Sl.v ρ2, vI ρ6])) ω7) := by kernel_rfl
theorem E_s (code_0 : Sl) (w : World) (R : Ending → World → Prop) : E std code_0 w R = (
  call1 .ptr PP F.spec_l1New #[Sl.v code_0] w fun (ρ0 : (Option Addr)) ω1 =>
  call1 .sl PP F.spec_l12Bent #[.pointer ρ0] ω1 fun (ρ2 : Sl) ω3 =>
  sem1 .sl PP (Instr.buildSlice T_Sint 10 #[(0, vI 0), (1, vI 1), (2, vI 2), (3, vI 3), (4, vI 4), (5, vI 5), (6, vI 4), (7, vI 5), (8, vI 7), (9, vI (-1))]) ω3 fun (ρ4 : Sl) ω5 =>
  call1 (.int .i64) PP F.spec_l1PickInt #[.pointer ρ0, Sl.v ρ4] ω5 fun (ρ6 : Int) ω7 =>
  R (.returned (.tuple #[Sl.v ρ2, vI ρ6])) ω7) := E_eq std code_0 w R
theorem drawsOk : drawsOk PP cfg okD (codeOf Tryz.f44) = true := by kernel_rfl
theorem calls (code_0 : Sl) {w : World} {R : Ending → World → Prop} (h : E std code_0 w R) : Calls PP F.spec_l12Case #[Sl.v code_0] w R :=
  calls_of noCount mixed drawOk Tryz.func44 rfl (c := cfg) (args := [Sl.v code_0]) rfl (Nat.le_of_ble_eq_true (by kernel_rfl)) drawsOk h
end spec_l12Case

namespace spec_l12Bent
@[reducible] def cfg : Cfg := ⟨14, [], [], [], [2], [], [13, 12, 21, 89, 36, 108, 74, 75, 104, 78, 125], [73, 117, 103, 46, 4, 30, 40]⟩
def E (pr : Prims) (c_0 : Addr) (w : World) (R : Ending → World → Prop) : Prop :=
  wpC pr PP cfg (DD pr) (codeOf Tryz.f28) (retQ Tryz.f28.results.toList R) (argE 0 [.pointer (some c_0)]) w
theorem E_eq (pr : Prims) (c_0 : Addr) (w : World) (R : Ending → World → Prop) : E pr c_0 w R = (
  pr.call1 .sl PP F.spec_l12Draw #[.pointer (some c_0)] w fun (ρ0 : Sl) ω1 =>
  pr.call1 .bool PP F.spec_l1Once #[.pointer (some c_0), vI 10] ω1 fun (ρ2 : Bool) ω3 =>
  bif ρ2 then (
  pr.call1 .sl PP F.spec_l2Bent #[.pointer (some c_0)] ω3 fun (ρ4 : Sl) ω5 =>
  pr.sem1 .sl PP (Instr.buildSlice T_SSint 1 #[(0, Sl.v ρ4)]) ω5 fun (ρ6 : Sl) ω7 =>
  pr.sem1 .sl PP (Builtin.append_ #[T_SSint, T_SSint] T_SSint #[Sl.v ρ0, Sl.v ρ6]) ω7 fun (ρ8 : Sl) ω9 =>
  R (.returned (Sl.v ρ8)) ω9)
  else (
  R (.returned (Sl.v ρ0)) ω3)) := by kernel_rfl
theorem E_s (c_0 : Addr) (w : World) (R : Ending → World → Prop) : E std c_0 w R = (
  call1 .sl PP F.spec_l12Draw #[.pointer (some c_0)] w fun (ρ0 : Sl) ω1 =>
  call1 .bool PP F.spec_l1Once #[.pointer (some c_0), vI 10] ω1 fun (ρ2 : Bool) ω3 =>
  bif ρ2 then (
  call1 .sl PP F.spec_l2Bent #[.pointer (some c_0)] ω3 fun (ρ4 : Sl) ω5 =>
  sem1 .sl PP (Instr.buildSlice T_SSint 1 #[(0, Sl.v ρ4)]) ω5 fun (ρ6 : Sl) ω7 =>
  sem1 .sl PP (Builtin.append_ #[T_SSint, T_SSint] T_SSint #[Sl.v ρ0, Sl.v ρ6]) ω7 fun (ρ8 : Sl) ω9 =>
  R (.returned (Sl.v ρ8)) ω9)
  else (
  R (.returned (Sl.v ρ0)) ω3)) := E_eq std c_0 w R
theorem drawsOk : drawsOk PP cfg okD (codeOf Tryz.f28) = true := by kernel_rfl
theorem calls (c_0 : Addr) {w : World} {R : Ending → World → Prop} (h : E std c_0 w R) : Calls PP F.spec_l12Bent #[.pointer (some c_0)] w R :=
  calls_of noCount mixed drawOk Tryz.func28 rfl (c := cfg) (args := [.pointer (some c_0)]) rfl (Nat.le_of_ble_eq_true (by kernel_rfl)) drawsOk h
end spec_l12Bent

namespace spec_l12Draw
@[reducible] def cfg : Cfg := ⟨31, [(4, [0, 3, 4, 5])], [(1, [0, 3, 4, 5]), (0, [3])], [], [2], [], [13, 12, 21, 89, 36, 108, 74, 75, 104, 78, 125], [73, 117, 103, 46, 4, 30, 40]⟩
def q6 (pr : Prims) (R : Ending → World → Prop) : Exit → Env → World → Prop := fun ex e w => normQ ex (fun e w => contE pr cfg (sub (codeOf Tryz.f61) [1, 1, 1, 1]) (fun e w => wpC pr PP cfg (DD pr) (sub (codeOf Tryz.f61) [1, 1, 1, 1]) (retQ Tryz.f61.results.toList R) e w) e w) (retQ Tryz.f61.results.toList R) e w
def q7 (pr : Prims) (R : Ending → World → Prop) : Exit → Env → World → Prop := fun ex e w => blockQ ex 0 (q6 pr R) e w
def emb4 (c_0 : Addr) (list_3 : Sl) (n_4 : Int) (k_5 : Int) : Env := [(0, .pointer (some c_0)), (3, Sl.v list_3), (4, vI n_4), (5, vI k_5)]
def x0 (list_3 : Sl) : Env := [(3, Sl.v list_3)]
def S4 (pr : Prims) (Q : Exit → Env → World → Prop) : (Env → World → Prop) → Env → World → Prop := fun k e w => wpC pr PP cfg (DD pr) (sub (codeOf Tryz.f61) [1, 1, 1, 0, 1, 0, 0]) (fun ex e w => normQ ex (fun e' w' => k (Env.restr e' (lookN cfg.loops (keyOf (sub (codeOf Tryz.f61) [1, 1, 1, 0, 1, 0, 0])))) w') Q e w) e w
def B4 (pr : Prims) (c_0 : Addr) (list_3 : Sl) (n_4 : Int) (k_5 : Int) (w : World) (k : Env → World → Prop) (Q : Exit → Env → World → Prop) : Prop :=
  S4 pr Q k (emb4 c_0 list_3 n_4 k_5) w
def L4 (pr : Prims) (c_0 : Addr) (list_3 : Sl) (n_4 : Int) (k_5 : Int) (w : World) (Q : Exit → Env → World → Prop) : Prop :=
  pr.loop (S4 pr Q) (emb4 c_0 list_3 n_4 k_5) w
def E (pr : Prims) (c_0 : Addr) (w : World) (R : Ending → World → Prop) : Prop :=
  wpC pr PP cfg (DD pr) (codeOf Tryz.f61) (retQ Tryz.f61.results.toList R) (argE 0 [.pointer (some c_0)]) w
theorem B4_eq (pr : Prims) (c_0 : Addr) (list_3 : Sl) (n_4 : Int) (k_5 : Int) (w : World) (k : Env → World → Prop) (Q : Exit → Env → World → Prop) : B4 pr c_0 list_3 n_4 k_5 w k Q = (
  bif decide (k_5 < n_4) then (
  pr.sem1 .sl PP (Instr.buildSlice T_Sint 5 #[(0, vI 2), (1, vI 3), (2, vI 3), (3, vI 3), (4, vI 4)]) w fun (ρ8 : Sl) ω9 =>
  pr.call1 (.int .i64) PP F.spec_l1PickInt #[.pointer (some c_0), Sl.v ρ8] ω9 fun (ρ10 : Int) ω11 =>
  pr.call1 .sl PP F.spec_l2Draw #[.pointer (some c_0), vI ρ10] ω11 fun (ρ12 : Sl) ω13 =>
  pr.sem1 .sl PP (Instr.buildSlice T_SSint 1 #[(0, Sl.v ρ12)]) ω13 fun (ρ14 : Sl) ω15 =>
  pr.sem1 .sl PP (Builtin.append_ #[T_SSint, T_SSint] T_SSint #[Sl.v list_3, Sl.v ρ14]) ω15 fun (ρ16 : Sl) ω17 =>
  k (emb4 c_0 ρ16 n_4 (w64 (k_5 + 1))) ω17)
  else (
  Q (.exit 0) (x0 list_3) w)) := by kernel_rfl
theorem B4_s (c_0 : Addr) (list_3 : Sl) (n_4 : Int) (k_5 : Int) (w : World) (k : Env → World → Prop) (Q : Exit → Env → World → Prop) : B4 std c_0 list_3 n_4 k_5 w k Q = (
  bif decide (k_5 < n_4) then (
  sem1 .sl PP (Instr.buildSlice T_Sint 5 #[(0, vI 2), (1, vI 3), (2, vI 3), (3, vI 3), (4, vI 4)]) w fun (ρ8 : Sl) ω9 =>
  call1 (.int .i64) PP F.spec_l1PickInt #[.pointer (some c_0), Sl.v ρ8] ω9 fun (ρ10 : Int) ω11 =>
  call1 .sl PP F.spec_l2Draw #[.pointer (some c_0), vI ρ10] ω11 fun (ρ12 : Sl) ω13 =>
  sem1 .sl PP (Instr.buildSlice T_SSint 1 #[(0, Sl.v ρ12)]) ω13 fun (ρ14 : Sl) ω15 =>
  sem1 .sl PP (Builtin.append_ #[T_SSint, T_SSint] T_SSint #[Sl.v list_3, Sl.v ρ14]) ω15 fun (ρ16 : Sl) ω17 =>
  k (emb4 c_0 ρ16 n_4 (w64 (k_5 + 1))) ω17)
  else (
  Q (.exit 0) (x0 list_3) w)) := B4_eq std c_0 list_3 n_4 k_5 w k Q
theorem L4_rule (c_0 : Addr) (list_3 : Sl) (n_4 : Int) (k_5 : Int) (w : World) (Q : Exit → Env → World → Prop) (I : Sl → Int → World → Prop) (μ : Sl → Int → World → Nat) (h0 : I list_3 k_5 w)
    (h : ∀ (list_3 : Sl) (k_5 : Int) (w' : World), I list_3 k_5 w' → B4 std c_0 list_3 n_4 k_5 w' (fun e2 w2 => ∃ list_3_n k_5_n, e2 = emb4 c_0 list_3_n n_4 k_5_n ∧ I list_3_n k_5_n w2 ∧ μ list_3_n k_5_n w2 < μ list_3 k_5 w') Q) :
    L4 std c_0 list_3 n_4 k_5 w Q := by
  unfold L4
  refine LoopE.intro (σ := Sl × Int) (step := S4 std Q) (fun s => emb4 c_0 s.1 n_4 s.2) (fun s w => I s.1 s.2 w) (fun s w => μ s.1 s.2 w) (list_3, k_5) rfl h0 ?_
  intro s w' hI
  have h1 := h s.1 s.2 w' hI
  unfold B4 at h1
  simp only [Prod.exists]
  exact h1
theorem A4_0_eq (pr : Prims) (list_3 : Sl) (w : World) (R : Ending → World → Prop) : (q7 pr R) (.exit 0) (x0 list_3) w = (
  pr.call2 .sl .bool PP F.spec_MakeBasis #[Sl.v list_3] w fun (ρ18 : Sl) (ρ19 : Bool) ω20 =>
  R (.returned (Sl.v ρ18)) ω20) := by kernel_rfl
theorem A4_0_s (list_3 : Sl) (w : World) (R : Ending → World → Prop) : (q7 std R) (.exit 0) (x0 list_3) w = (
  call2 .sl .bool PP F.spec_MakeBasis #[Sl.v list_3] w fun (ρ18 : Sl) (ρ19 : Bool) ω20 =>
  R (.returned (Sl.v ρ18)) ω20) := A4_0_eq std list_3 w R
theorem E_eq (pr : Prims) (c_0 : Addr) (w : World) (R : Ending → World → Prop) : E pr c_0 w R = (
  pr.sem1 .sl PP (Instr.buildSlice T_SSint 0 #[]) w fun (ρ0 : Sl) ω1 =>
  pr.sem1 .sl PP (Instr.buildSlice T_Sint 6 #[(0, vI 0), (1, vI 1), (2, vI 1), (3, vI 2), (4, vI 2), (5, vI 3)]) ω1 fun (ρ2 : Sl) ω3 =>
  pr.call1 (.int .i64) PP F.spec_l1PickInt #[.pointer (some c_0), Sl.v ρ2] ω3 fun (ρ4 : Int) ω5 =>
  L4 pr c_0 ρ0 ρ4 0 ω5 (q7 pr R)) := by kernel_rfl
theorem E_s (c_0 : Addr) (w : World) (R : Ending → World → Prop) : E std c_0 w R = (
  sem1 .sl PP (Instr.buildSlice T_SSint 0 #[]) w fun (ρ0 : Sl) ω1 =>
  sem1 .sl PP (Instr.buildSlice T_Sint 6 #[(0, vI 0), (1, vI 1), (2, vI 1), (3, vI 2), (4, vI 2), (5, vI 3)]) ω1 fun (ρ2 : Sl) ω3 =>
  call1 (.int .i64) PP F.spec_l1PickInt #[.pointer (some c_0), Sl.v ρ2] ω3 fun (ρ4 : Int) ω5 =>
  L4 std c_0 ρ0 ρ4 0 ω5 (q7 std R)) := E_eq std c_0 w R
theorem drawsOk : drawsOk PP cfg okD (codeOf Tryz.f61) = true := by kernel_rfl
theorem calls (c_0 : Addr) {w : World} {R : Ending → World → Prop} (h : E std c_0 w R) : Calls PP F.spec_l12Draw #[.pointer (some c_0)] w R :=
  calls_of noCount mixed drawOk Tryz.func61 rfl (c := cfg) (args := [.pointer (some c_0)]) rfl (Nat.le_of_ble_eq_true (by kernel_rfl)) drawsOk h
end spec_l12Draw

namespace spec_MakeBasis
@[reducible] def cfg : Cfg := ⟨38, [(6, [4, 5, 6])], [(1, [4, 5, 6]), (0, [5])], [], [2, 3], [], [13, 12, 21, 89, 36, 108, 74, 75, 104, 78, 125], [73, 117, 103, 46, 4, 30, 40]⟩
def q8 (pr : Prims) (R : Ending → World → Prop) : Exit → Env → World → Prop := fun ex e w => normQ ex (fun e w => contE pr cfg (sub (codeOf Tryz.f84) [1, 1, 1, 1, 1]) (fun e w => wpC pr PP cfg (DD pr) (sub (codeOf Tryz.f84) [1, 1, 1, 1, 1]) (retQ Tryz.f84.results.toList R) e w) e w) (retQ Tryz.f84.results.toList R) e w
def q9 (pr : Prims) (R : Ending → World → Prop) : Exit → Env → World → Prop := fun ex e w => blockQ ex 0 (q8 pr R) e w
def emb6 (all_4 : Sl) (out_5 : Sl) (k_6 : Int) : Env := [(4, Sl.v all_4), (5, Sl.v out_5), (6, vI k_6)]
def x0 (out_5 : Sl) : Env := [(5, Sl.v out_5)]
def S6 (pr : Prims) (Q : Exit → Env → World → Prop) : (Env → World → Prop) → Env → World → Prop := fun k e w => wpC pr PP cfg (DD pr) (sub (codeOf Tryz.f84) [1, 1, 1, 1, 0, 1, 0, 0]) (fun ex e w => normQ ex (fun e' w' => k (Env.restr e' (lookN cfg.loops (keyOf (sub (codeOf Tryz.f84) [1, 1, 1, 1, 0, 1, 0, 0])))) w') Q e w) e w
def B6 (pr : Prims) (all_4 : Sl) (out_5 : Sl) (k_6 : Int) (w : World) (k : Env → World → Prop) (Q : Exit → Env → World → Prop) : Prop :=
  S6 pr Q k (emb6 all_4 out_5 k_6) w
def L6 (pr : Prims) (all_4 : Sl) (out_5 : Sl) (k_6 : Int) (w : World) (Q : Exit → Env → World → Prop) : Prop :=
  pr.loop (S6 pr Q) (emb6 all_4 out_5 k_6) w
def E (pr : Prims) (list_0 : Sl) (w : World) (R : Ending → World → Prop) : Prop :=
  wpC pr PP cfg (DD pr) (codeOf Tryz.f84) (retQ Tryz.f84.results.toList R) (argE 0 [Sl.v list_0]) w
theorem B6_eq (pr : Prims) (all_4 : Sl) (out_5 : Sl) (k_6 : Int) (w : World) (k : Env → World → Prop) (Q : Exit → Env → World → Prop) : B6 pr all_4 out_5 k_6 w k Q = (
  bif decide (k_6 < (all_4.n : Int)) then (
  pr.idxK 1 all_4 k_6 fun (a10 : Addr) =>
  pr.load1 .sl a10 w fun (ξ11 : Sl) =>
  pr.call1 .bool PP F.spec_l12Avoids #[Sl.v out_5, Sl.v ξ11] w fun (ρ12 : Bool) ω13 =>
  bif ρ12 then (
  pr.idxK 1 all_4 k_6 fun (a14 : Addr) =>
  pr.load1 .sl a14 ω13 fun (ξ15 : Sl) =>
  pr.sem1 .sl PP (Instr.buildSlice T_SSint 1 #[(0, Sl.v ξ15)]) ω13 fun (ρ16 : Sl) ω17 =>
  pr.sem1 .sl PP (Builtin.append_ #[T_SSint, T_SSint] T_SSint #[Sl.v out_5, Sl.v ρ16]) ω17 fun (ρ18 : Sl) ω19 =>
  k (emb6 all_4 ρ18 (w64 (k_6 + 1))) ω19)
  else (
  k (emb6 all_4 out_5 (w64 (k_6 + 1))) ω13))
  else (
  Q (.exit 0) (x0 out_5) w)) := by kernel_rfl
theorem B6_s (all_4 : Sl) (out_5 : Sl) (k_6 : Int) (w : World) (k : Env → World → Prop) (Q : Exit → Env → World → Prop) : B6 std all_4 out_5 k_6 w k Q = (
  bif decide (k_6 < (all_4.n : Int)) then (
  idxK 1 all_4 k_6 fun (a10 : Addr) =>
  load1 .sl a10 w fun (ξ11 : Sl) =>
  call1 .bool PP F.spec_l12Avoids #[Sl.v out_5, Sl.v ξ11] w fun (ρ12 : Bool) ω13 =>
  bif ρ12 then (
  idxK 1 all_4 k_6 fun (a14 : Addr) =>
  load1 .sl a14 ω13 fun (ξ15 : Sl) =>
  sem1 .sl PP (Instr.buildSlice T_SSint 1 #[(0, Sl.v ξ15)]) ω13 fun (ρ16 : Sl) ω17 =>
  sem1 .sl PP (Builtin.append_ #[T_SSint, T_SSint] T_SSint #[Sl.v out_5, Sl.v ρ16]) ω17 fun (ρ18 : Sl) ω19 =>
  k (emb6 all_4 ρ18 (w64 (k_6 + 1))) ω19)
  else (
  k (emb6 all_4 out_5 (w64 (k_6 + 1))) ω13))
  else (
  Q (.exit 0) (x0 out_5) w)) := B6_eq std all_4 out_5 k_6 w k Q
theorem L6_rule (all_4 : Sl) (out_5 : Sl) (k_6 : Int) (w : World) (Q : Exit → Env → World → Prop) (I : Sl → Int → World → Prop) (μ : Sl → Int → World → Nat) (h0 : I out_5 k_6 w)
    (h : ∀ (out_5 : Sl) (k_6 : Int) (w' : World), I out_5 k_6 w' → B6 std all_4 out_5 k_6 w' (fun e2 w2 => ∃ out_5_n k_6_n, e2 = emb6 all_4 out_5_n k_6_n ∧ I out_5_n k_6_n w2 ∧ μ out_5_n k_6_n w2 < μ out_5 k_6 w') Q) :
    L6 std all_4 out_5 k_6 w Q := by
  unfold L6
  refine LoopE.intro (σ := Sl × Int) (step := S6 std Q) (fun s => emb6 all_4 s.1 s.2) (fun s w => I s.1 s.2 w) (fun s w => μ s.1 s.2 w) (out_5, k_6) rfl h0 ?_
  intro s w' hI
  have h1 := h s.1 s.2 w' hI
  unfold B6 at h1
  simp only [Prod.exists]
  exact h1
theorem A6_0_eq (pr : Prims) (out_5 : Sl) (w : World) (R : Ending → World → Prop) : (q9 pr R) (.exit 0) (x0 out_5) w = (
  pr.call1 .bool PP F.spec_IsBasis #[Sl.v out_5] w fun (ρ20 : Bool) ω21 =>
  bif !ρ20 then (
  pr.sem1 .sl PP (Instr.buildSlice T_SSint 0 #[]) ω21 fun (ρ22 : Sl) ω23 =>
  R (.returned (.tuple #[Sl.v ρ22, .bool false])) ω23)
  else (
  R (.returned (.tuple #[Sl.v out_5, .bool true])) ω21)) := by kernel_rfl
theorem A6_0_s (out_5 : Sl) (w : World) (R : Ending → World → Prop) : (q9 std R) (.exit 0) (x0 out_5) w = (
  call1 .bool PP F.spec_IsBasis #[Sl.v out_5] w fun (ρ20 : Bool) ω21 =>
  bif !ρ20 then (
  sem1 .sl PP (Instr.buildSlice T_SSint 0 #[]) ω21 fun (ρ22 : Sl) ω23 =>
  R (.returned (.tuple #[Sl.v ρ22, .bool false])) ω23)
  else (
  R (.returned (.tuple #[Sl.v out_5, .bool true])) ω21)) := A6_0_eq std out_5 w R
theorem E_eq (pr : Prims) (list_0 : Sl) (w : World) (R : Ending → World → Prop) : E pr list_0 w R = (
  pr.call1 .bool PP F.spec_l3All #[Sl.v list_0] w fun (ρ0 : Bool) ω1 =>
  bif !ρ0 then (
  pr.sem1 .sl PP (Instr.buildSlice T_SSint 0 #[]) ω1 fun (ρ2 : Sl) ω3 =>
  R (.returned (.tuple #[Sl.v ρ2, .bool false])) ω3)
  else (
  pr.call1 .sl PP F.spec_OrderPerms #[Sl.v list_0] ω1 fun (ρ4 : Sl) ω5 =>
  pr.sem1 .sl PP (Instr.buildSlice T_SSint 0 #[]) ω5 fun (ρ6 : Sl) ω7 =>
  L6 pr ρ4 ρ6 0 ω7 (q9 pr R))) := by kernel_rfl
theorem E_s (list_0 : Sl) (w : World) (R : Ending → World → Prop) : E std list_0 w R = (
  call1 .bool PP F.spec_l3All #[Sl.v list_0] w fun (ρ0 : Bool) ω1 =>
  bif !ρ0 then (
  sem1 .sl PP (Instr.buildSlice T_SSint 0 #[]) ω1 fun (ρ2 : Sl) ω3 =>
  R (.returned (.tuple #[Sl.v ρ2, .bool false])) ω3)
  else (
  call1 .sl PP F.spec_OrderPerms #[Sl.v list_0] ω1 fun (ρ4 : Sl) ω5 =>
  sem1 .sl PP (Instr.buildSlice T_SSint 0 #[]) ω5 fun (ρ6 : Sl) ω7 =>
  L6 std ρ4 ρ6 0 ω7 (q9 std R))) := E_eq std list_0 w R
theorem drawsOk : drawsOk PP cfg okD (codeOf Tryz.f84) = true := by kernel_rfl
theorem calls (list_0 : Sl) {w : World} {R : Ending → World → Prop} (h : E std list_0 w R) : Calls PP F.spec_MakeBasis #[Sl.v list_0] w R :=
  calls_of noCount mixed drawOk Tryz.func84 rfl (c := cfg) (args := [Sl.v list_0]) rfl (Nat.le_of_ble_eq_true (by kernel_rfl)) drawsOk h
end spec_MakeBasis

namespace spec_l3All
@[reducible] def cfg : Cfg := ⟨16, [(2, [0, 3])], [(1, [0, 3]), (0, [])], [], [2], [], [13, 12, 21, 89, 36, 108, 74, 75, 104, 78, 125], [73, 117, 103, 46, 4, 30, 40]⟩
def q0 (pr : Prims) (R : Ending → World → Prop) : Exit → Env → World → Prop := fun ex e w => normQ ex (fun e w => contE pr cfg (sub (codeOf Tryz.f106) [1, 1]) (fun e w => wpC pr PP cfg (DD pr) (sub (codeOf Tryz.f106) [1, 1]) (retQ Tryz.f106.results.toList R) e w) e w) (retQ Tryz.f106.results.toList R) e w
def q1 (pr : Prims) (R : Ending → World → Prop) : Exit → Env → World → Prop := fun ex e w => blockQ ex 0 (q0 pr R) e w
def emb2 (list_0 : Sl) (k_3 : Int) : Env := [(0, Sl.v list_0), (3, vI k_3)]
def x0 : Env := []
def S2 (pr : Prims) (Q : Exit → Env → World → Prop) : (Env → World → Prop) → Env → World → Prop := fun k e w => wpC pr PP cfg (DD pr) (sub (codeOf Tryz.f106) [1, 0, 1, 0, 0]) (fun ex e w => normQ ex (fun e' w' => k (Env.restr e' (lookN cfg.loops (keyOf (sub (codeOf Tryz.f106) [1, 0, 1, 0, 0])))) w') Q e w) e w
def B2 (pr : Prims) (list_0 : Sl) (k_3 : Int) (w : World) (k : Env → World → Prop) (Q : Exit → Env → World → Prop) : Prop :=
  S2 pr Q k (emb2 list_0 k_3) w
def L2 (pr : Prims) (list_0 : Sl) (k_3 : Int) (w : World) (Q : Exit → Env → World → Prop) : Prop :=
  pr.loop (S2 pr Q) (emb2 list_0 k_3) w
def E (pr : Prims) (list_0 : Sl) (w : World) (R : Ending → World → Prop) : Prop :=
  wpC pr PP cfg (DD pr) (codeOf Tryz.f106) (retQ Tryz.f106.results.toList R) (argE 0 [Sl.v list_0]) w
theorem B2_eq (pr : Prims) (list_0 : Sl) (k_3 : Int) (w : World) (k : Env → World → Prop) (Q : Exit → Env → World → Prop) : B2 pr list_0 k_3 w k Q = (
  bif decide (k_3 < (list_0.n : Int)) then (
  pr.idxK 1 list_0 k_3 fun (a2 : Addr) =>
  pr.load1 .sl a2 w fun (ξ3 : Sl) =>
  pr.call1 .bool PP F.spec_IsPerm #[Sl.v ξ3] w fun (ρ4 : Bool) ω5 =>
  bif !ρ4 then (
  Q .ret [(2, .bool false)] ω5)
  else (
  k (emb2 list_0 (w64 (k_3 + 1))) ω5))
  else (
  Q (.exit 0) (x0) w)) := by kernel_rfl
theorem B2_s (list_0 : Sl) (k_3 : Int) (w : World) (k : Env → World → Prop) (Q : Exit → Env → World → Prop) : B2 std list_0 k_3 w k Q = (
  bif decide (k_3 < (list_0.n : Int)) then (
  idxK 1 list_0 k_3 fun (a2 : Addr) =>
  load1 .sl a2 w fun (ξ3 : Sl) =>
  call1 .bool PP F.spec_IsPerm #[Sl.v ξ3] w fun (ρ4 : Bool) ω5 =>
  bif !ρ4 then (
  Q .ret [(2, .bool false)] ω5)
  else (
  k (emb2 list_0 (w64 (k_3 + 1))) ω5))
  else (
  Q (.exit 0) (x0) w)) := B2_eq std list_0 k_3 w k Q
theorem L2_rule (list_0 : Sl) (k_3 : Int) (w : World) (Q : Exit → Env → World → Prop) (I : Int → World → Prop) (μ : Int → World → Nat) (h0 : I k_3 w)
    (h : ∀ (k_3 : Int) (w' : World), I k_3 w' → B2 std list_0 k_3 w' (fun e2 w2 => ∃ k_3_n, e2 = emb2 list_0 k_3_n ∧ I k_3_n w2 ∧ μ k_3_n w2 < μ k_3 w') Q) :
    L2 std list_0 k_3 w Q := by
  unfold L2
  refine LoopE.intro (σ := Int) (step := S2 std Q) (fun s => emb2 list_0 s) (fun s w => I s w) (fun s w => μ s w) k_3 rfl h0 ?_
  intro s w' hI
  have h1 := h s w' hI
  unfold B2 at h1
  exact h1
theorem A2_0_eq (pr : Prims) (w : World) (R : Ending → World → Prop) : (q1 pr R) (.exit 0) (x0) w = (
  R (.returned (.bool true)) w) := by kernel_rfl
theorem A2_0_s (w : World) (R : Ending → World → Prop) : (q1 std R) (.exit 0) (x0) w = (
  R (.returned (.bool true)) w) := A2_0_eq std w R
theorem R2_eq (pr : Prims) (v2 : Value) (w : World) (R : Ending → World → Prop) : (q1 pr R) .ret [(2, v2)] w = (
  R (.returned (v2)) w) := by kernel_rfl
theorem R2_s (v2 : Value) (w : World) (R : Ending → World → Prop) : (q1 std R) .ret [(2, v2)] w = (
  R (.returned (v2)) w) := R2_eq std v2 w R
theorem E_eq (pr : Prims) (list_0 : Sl) (w : World) (R : Ending → World → Prop) : E pr list_0 w R = (
  L2 pr list_0 0 w (q1 pr R)) := by kernel_rfl
theorem E_s (list_0 : Sl) (w : World) (R : Ending → World → Prop) : E std list_0 w R = (
  L2 std list_0 0 w (q1 std R)) := E_eq std list_0 w R
theorem drawsOk : drawsOk PP cfg okD (codeOf Tryz.f106) = true := by kernel_rfl
theorem calls (list_0 : Sl) {w : World} {R : Ending → World → Prop} (h : E std list_0 w R) : Calls PP F.spec_l3All #[Sl.v list_0] w R :=
  calls_of noCount mixed drawOk Tryz.func106 rfl (c := cfg) (args := [Sl.v list_0]) rfl (Nat.le_of_ble_eq_true (by kernel_rfl)) drawsOk h
end spec_l3All

namespace spec_OrderPerms
@[reducible] def cfg : Cfg := ⟨23, [(3, [0, 3, 4])], [(1, [0, 3, 4]), (0, [3])], [], [2], [], [13, 12, 21, 89, 36, 108, 74, 75, 104, 78, 125], [73, 117, 103, 46, 4, 30, 40]⟩
def q2 (pr : Prims) (R : Ending → World → Prop) : Exit → Env → World → Prop := fun ex e w => normQ ex (fun e w => contE pr cfg (sub (codeOf Tryz.f107) [1, 1, 1]) (fun e w => wpC pr PP cfg (DD pr) (sub (codeOf Tryz.f107) [1, 1, 1]) (retQ Tryz.f107.results.toList R) e w) e w) (retQ Tryz.f107.results.toList R) e w
def q3 (pr : Prims) (R : Ending → World → Prop) : Exit → Env → World → Prop := fun ex e w => blockQ ex 0 (q2 pr R) e w
def emb3 (list_0 : Sl) (out_3 : Sl) (k_4 : Int) : Env := [(0, Sl.v list_0), (3, Sl.v out_3), (4, vI k_4)]
def x0 (out_3 : Sl) : Env := [(3, Sl.v out_3)]
def S3 (pr : Prims) (Q : Exit → Env → World → Prop) : (Env → World → Prop) → Env → World → Prop := fun k e w => wpC pr PP cfg (DD pr) (sub (codeOf Tryz.f107) [1, 1, 0, 1, 0, 0]) (fun ex e w => normQ ex (fun e' w' => k (Env.restr e' (lookN cfg.loops (keyOf (sub (codeOf Tryz.f107) [1, 1, 0, 1, 0, 0])))) w') Q e w) e w
def B3 (pr : Prims) (list_0 : Sl) (out_3 : Sl) (k_4 : Int) (w : World) (k : Env → World → Prop) (Q : Exit → Env → World → Prop) : Prop :=
  S3 pr Q k (emb3 list_0 out_3 k_4) w
def L3 (pr : Prims) (list_0 : Sl) (out_3 : Sl) (k_4 : Int) (w : World) (Q : Exit → Env → World → Prop) : Prop :=
  pr.loop (S3 pr Q) (emb3 list_0 out_3 k_4) w
def E (pr : Prims) (list_0 : Sl) (w : World) (R : Ending → World → Prop) : Prop :=
  wpC pr PP cfg (DD pr) (codeOf Tryz.f107) (retQ Tryz.f107.results.toList R) (argE 0 [Sl.v list_0]) w
theorem B3_eq (pr : Prims) (list_0 : Sl) (out_3 : Sl) (k_4 : Int) (w : World) (k : Env → World → Prop) (Q : Exit → Env → World → Prop) : B3 pr list_0 out_3 k_4 w k Q = (
  bif decide (k_4 < (list_0.n : Int)) then (
  pr.call1 .bool PP F.spec_l3All #[Sl.v list_0] w fun (ρ4 : Bool) ω5 =>
  bif ρ4 then (
  pr.idxK 1 list_0 k_4 fun (a6 : Addr) =>
  pr.load1 .sl a6 ω5 fun (ξ7 : Sl) =>
  pr.call1 .sl PP F.spec_l3Put #[Sl.v out_3, Sl.v ξ7] ω5 fun (ρ8 : Sl) ω9 =>
  k (emb3 list_0 ρ8 (w64 (k_4 + 1))) ω9)
  else (
  Q (.exit 0) (x0 out_3) ω5))
  else (
  Q (.exit 0) (x0 out_3) w)) := by kernel_rfl
theorem B3_s (list_0 : Sl) (out_3 : Sl) (k_4 : Int) (w : World) (k : Env → World → Prop) (Q : Exit → Env → World → Prop) : B3 std list_0 out_3 k_4 w k Q = (
  bif decide (k_4 < (list_0.n : Int)) then (
  call1 .bool PP F.spec_l3All #[Sl.v list_0] w fun (ρ4 : Bool) ω5 =>
  bif ρ4 then (
  idxK 1 list_0 k_4 fun (a6 : Addr) =>
  load1 .sl a6 ω5 fun (ξ7 : Sl) =>
  call1 .sl PP F.spec_l3Put #[Sl.v out_3, Sl.v ξ7] ω5 fun (ρ8 : Sl) ω9 =>
  k (emb3 list_0 ρ8 (w64 (k_4 + 1))) ω9)
  else (
  Q (.exit 0) (x0 out_3) ω5))
  else (
  Q (.exit 0) (x0 out_3) w)) := B3_eq std list_0 out_3 k_4 w k Q
theorem L3_rule (list_0 : Sl) (out_3 : Sl) (k_4 : Int) (w : World) (Q : Exit → Env → World → Prop) (I : Sl → Int → World → Prop) (μ : Sl → Int → World → Nat) (h0 : I out_3 k_4 w)
    (h : ∀ (out_3 : Sl) (k_4 : Int) (w' : World), I out_3 k_4 w' → B3 std list_0 out_3 k_4 w' (fun e2 w2 => ∃ out_3_n k_4_n, e2 = emb3 list_0 out_3_n k_4_n ∧ I out_3_n k_4_n w2 ∧ μ out_3_n k_4_n w2 < μ out_3 k_4 w') Q) :
    L3 std list_0 out_3 k_4 w Q := by
  unfold L3
  refine LoopE.intro (σ := Sl × Int) (step := S3 std Q) (fun s => emb3 list_0 s.1 s.2) (fun s w => I s.1 s.2 w) (fun s w => μ s.1 s.2 w) (out_3, k_4) rfl h0 ?_
  intro s w' hI
  have h1 := h s.1 s.2 w' hI
  unfold B3 at h1
  simp only [Prod.exists]
  exact h1
theorem A3_0_eq (pr : Prims) (out_3 : Sl) (w : World) (R : Ending → World → Prop) : (q3 pr R) (.exit 0) (x0 out_3) w = (
  R (.returned (Sl.v out_3)) w) := by kernel_rfl
theorem A3_0_s (out_3 : Sl) (w : World) (R : Ending → World → Prop) : (q3 std R) (.exit 0) (x0 out_3) w = (
  R (.returned (Sl.v out_3)) w) := A3_0_eq std out_3 w R
theorem E_eq (pr : Prims) (list_0 : Sl) (w : World) (R : Ending → World → Prop) : E pr list_0 w R = (
  pr.sem1 .sl PP (Instr.buildSlice T_SSint 0 #[]) w fun (ρ0 : Sl) ω1 =>
  L3 pr list_0 ρ0 0 ω1 (q3 pr R)) := by kernel_rfl
theorem E_s (list_0 : Sl) (w : World) (R : Ending → World → Prop) : E std list_0 w R = (
  sem1 .sl PP (Instr.buildSlice T_SSint 0 #[]) w fun (ρ0 : Sl) ω1 =>
  L3 std list_0 ρ0 0 ω1 (q3 std R)) := E_eq std list_0 w R
theorem drawsOk : drawsOk PP cfg okD (codeOf Tryz.f107) = true := by kernel_rfl
theorem calls (list_0 : Sl) {w : World} {R : Ending → World → Prop} (h : E std list_0 w R) : Calls PP F.spec_OrderPerms #[Sl.v list_0] w R :=
  calls_of noCount mixed drawOk Tryz.func107 rfl (c := cfg) (args := [Sl.v list_0]) rfl (Nat.le_of_ble_eq_true (by kernel_rfl)) drawsOk h
end spec_OrderPerms

namespace spec_l3Put
@[reducible] def cfg : Cfg := ⟨49, [(2, [0, 1, 5])], [(1, [0, 1, 5]), (0, [0, 1, 5])], [], [4], [], [13, 12, 21, 89, 36, 108, 74, 75, 104, 78, 125], [73, 117, 103, 46, 4, 30, 40]⟩
def q0 (pr : Prims) (R : Ending → World → Prop) : Exit → Env → World → Prop := fun ex e w => normQ ex (fun e w => contE pr cfg (sub (codeOf Tryz.f126) [1, 1, 1]) (fun e w => wpC pr PP cfg (DD pr) (sub (codeOf Tryz.f126) [1, 1, 1]) (retQ Tryz.f126.results.toList R) e w) e w) (retQ Tryz.f126.results.toList R) e w
def q1 (pr : Prims) (R : Ending → World → Prop) : Exit → Env → World → Prop := fun ex e w => blockQ ex 0 (q0 pr R) e w
def emb2 (list_0 : Sl) (p_1 : Sl) (at_5 : Int) : Env := [(0, Sl.v list_0), (1, Sl.v p_1), (5, vI at_5)]
def x0 (list_0 : Sl) (p_1 : Sl) (at_5 : Int) : Env := [(0, Sl.v list_0), (1, Sl.v p_1), (5, vI at_5)]
def S2 (pr : Prims) (Q : Exit → Env → World → Prop) : (Env → World → Prop) → Env → World → Prop := fun k e w => wpC pr PP cfg (DD pr) (sub (codeOf Tryz.f126) [1, 1, 0, 0, 0]) (fun ex e w => normQ ex (fun e' w' => k (Env.restr e' (lookN cfg.loops (keyOf (sub (codeOf Tryz.f126) [1, 1, 0, 0, 0])))) w') Q e w) e w
def B2 (pr : Prims) (list_0 : Sl) (p_1 : Sl) (at_5 : Int) (w : World) (k : Env → World → Prop) (Q : Exit → Env → World → Prop) : Prop :=
  S2 pr Q k (emb2 list_0 p_1 at_5) w
def L2 (pr : Prims) (list_0 : Sl) (p_1 : Sl) (at_5 : Int) (w : World) (Q : Exit → Env → World → Prop) : Prop :=
  pr.loop (S2 pr Q) (emb2 list_0 p_1 at_5) w
def E (pr : Prims) (list_0 : Sl) (p_1 : Sl) (w : World) (R : Ending → World → Prop) : Prop :=
  wpC pr PP cfg (DD pr) (codeOf Tryz.f126) (retQ Tryz.f126.results.toList R) (argE 0 [Sl.v list_0, Sl.v p_1]) w
theorem B2_eq (pr : Prims) (list_0 : Sl) (p_1 : Sl) (at_5 : Int) (w : World) (k : Env → World → Prop) (Q : Exit → Env → World → Prop) : B2 pr list_0 p_1 at_5 w k Q = (
  bif decide (at_5 > 0) then (
  pr.idxK 1 list_0 (w64 (at_5 - 1)) fun (a2 : Addr) =>
  pr.load1 .sl a2 w fun (ξ3 : Sl) =>
  pr.call1 .bool PP F.spec_l2Before #[Sl.v p_1, Sl.v ξ3] w fun (ρ4 : Bool) ω5 =>
  bif ρ4 then (
  k (emb2 list_0 p_1 (w64 (at_5 - 1))) ω5)
  else (
  Q (.exit 0) (x0 list_0 p_1 at_5) ω5))
  else (
  Q (.exit 0) (x0 list_0 p_1 at_5) w)) := by kernel_rfl
theorem B2_s (list_0 : Sl) (p_1 : Sl) (at_5 : Int) (w : World) (k : Env → World → Prop) (Q : Exit → Env → World → Prop) : B2 std list_0 p_1 at_5 w k Q = (
  bif decide (at_5 > 0) then (
  idxK 1 list_0 (w64 (at_5 - 1)) fun (a2 : Addr) =>
  load1 .sl a2 w fun (ξ3 : Sl) =>
  call1 .bool PP F.spec_l2Before #[Sl.v p_1, Sl.v ξ3] w fun (ρ4 : Bool) ω5 =>
  bif ρ4 then (
  k (emb2 list_0 p_1 (w64 (at_5 - 1))) ω5)
  else (
  Q (.exit 0) (x0 list_0 p_1 at_5) ω5))
  else (
  Q (.exit 0) (x0 list_0 p_1 at_5) w)) := B2_eq std list_0 p_1 at_5 w k Q
theorem L2_rule (list_0 : Sl) (p_1 : Sl) (at_5 : Int) (w : World) (Q : Exit → Env → World → Prop) (I : Int → World → Prop) (μ : Int → World → Nat) (h0 : I at_5 w)
    (h : ∀ (at_5 : Int) (w' : World), I at_5 w' → B2 std list_0 p_1 at_5 w' (fun e2 w2 => ∃ at_5_n, e2 = emb2 list_0 p_1 at_5_n ∧ I at_5_n w2 ∧ μ at_5_n w2 < μ at_5 w') Q) :
    L2 std list_0 p_1 at_5 w Q := by
  unfold L2
  refine LoopE.intro (σ := Int) (step := S2 std Q) (fun s => emb2 list_0 p_1 s) (fun s w => I s w) (fun s w => μ s w) at_5 rfl h0 ?_
  intro s w' hI
  have h1 := h s w' hI
  unfold B2 at h1
  exact h1
theorem A2_0_eq (pr : Prims) (list_0 : Sl) (p_1 : Sl) (at_5 : Int) (w : World) (R : Ending → World → Prop) : (q1 pr R) (.exit 0) (x0 list_0 p_1 at_5) w = (
  bif decide (at_5 > 0) then (
  pr.idxK 1 list_0 (w64 (at_5 - 1)) fun (a6 : Addr) =>
  pr.load1 .sl a6 w fun (ξ7 : Sl) =>
  pr.call1 .bool PP F.spec_l2Same #[Sl.v ξ7, Sl.v p_1] w fun (ρ8 : Bool) ω9 =>
  bif ρ8 then (
  R (.returned (Sl.v list_0)) ω9)
  else (
  pr.sem1 .sl PP (Instr.buildSlice T_SSint 0 #[]) ω9 fun (ρ10 : Sl) ω11 =>
  pr.cutK 1 list_0 (some at_5) none fun (s12 : Sl) =>
  pr.sem1 .sl PP (Builtin.append_ #[T_SSint, T_SSint] T_SSint #[Sl.v ρ10, Sl.v s12]) ω11 fun (ρ13 : Sl) ω14 =>
  pr.drewAll ω14 fun ω15 =>
  pr.cutK 1 list_0 none (some at_5) fun (s16 : Sl) =>
  pr.sem1 .sl PP (Instr.buildSlice T_Sint 0 #[]) ω15 fun (ρ17 : Sl) ω18 =>
  pr.sem1 .sl PP (Builtin.append_ #[T_Sint, T_Sint] T_Sint #[Sl.v ρ17, Sl.v p_1]) ω18 fun (ρ19 : Sl) ω20 =>
  pr.sem1 .sl PP (Instr.buildSlice T_SSint 1 #[(0, Sl.v ρ19)]) ω20 fun (ρ21 : Sl) ω22 =>
  pr.sem1 .sl PP (Builtin.append_ #[T_SSint, T_SSint] T_SSint #[Sl.v s16, Sl.v ρ21]) ω22 fun (ρ23 : Sl) ω24 =>
  pr.sem1 .sl PP (Builtin.append_ #[T_SSint, T_SSint] T_SSint #[Sl.v ρ23, Sl.v ρ13]) ω24 fun (ρ25 : Sl) ω26 =>
  R (.returned (Sl.v ρ25)) ω26))
  else (
  pr.sem1 .sl PP (Instr.buildSlice T_SSint 0 #[]) w fun (ρ27 : Sl) ω28 =>
  pr.cutK 1 list_0 (some at_5) none fun (s29 : Sl) =>
  pr.sem1 .sl PP (Builtin.append_ #[T_SSint, T_SSint] T_SSint #[Sl.v ρ27, Sl.v s29]) ω28 fun (ρ30 : Sl) ω31 =>
  pr.drewAll ω31 fun ω32 =>
  pr.cutK 1 list_0 none (some at_5) fun (s33 : Sl) =>
  pr.sem1 .sl PP (Instr.buildSlice T_Sint 0 #[]) ω32 fun (ρ34 : Sl) ω35 =>
  pr.sem1 .sl PP (Builtin.append_ #[T_Sint, T_Sint] T_Sint #[Sl.v ρ34, Sl.v p_1]) ω35 fun (ρ36 : Sl) ω37 =>
  pr.sem1 .sl PP (Instr.buildSlice T_SSint 1 #[(0, Sl.v ρ36)]) ω37 fun (ρ38 : Sl) ω39 =>
  pr.sem1 .sl PP (Builtin.append_ #[T_SSint, T_SSint] T_SSint #[Sl.v s33, Sl.v ρ38]) ω39 fun (ρ40 : Sl) ω41 =>
  pr.sem1 .sl PP (Builtin.append_ #[T_SSint, T_SSint] T_SSint #[Sl.v ρ40, Sl.v ρ30]) ω41 fun (ρ42 : Sl) ω43 =>
  R (.returned (Sl.v ρ42)) ω43)) := by kernel_rfl
theorem A2_0_s (list_0 : Sl) (p_1 : Sl) (at_5 : Int) (w : World) (R : Ending → World → Prop) : (q1 std R) (.exit 0) (x0 list_0 p_1 at_5) w = (
  bif decide (at_5 > 0) then (
  idxK 1 list_0 (w64 (at_5 - 1)) fun (a6 : Addr) =>
  load1 .sl a6 w fun (ξ7 : Sl) =>
  call1 .bool PP F.spec_l2Same #[Sl.v ξ7, Sl.v p_1] w fun (ρ8 : Bool) ω9 =>
  bif ρ8 then (
  R (.returned (Sl.v list_0)) ω9)
  else (
  sem1 .sl PP (Instr.buildSlice T_SSint 0 #[]) ω9 fun (ρ10 : Sl) ω11 =>
  cutK 1 list_0 (some at_5) none fun (s12 : Sl) =>
  sem1 .sl PP (Builtin.append_ #[T_SSint, T_SSint] T_SSint #[Sl.v ρ10, Sl.v s12]) ω11 fun (ρ13 : Sl) ω14 =>
  drewAll ω14 fun ω15 =>
  cutK 1 list_0 none (some at_5) fun (s16 : Sl) =>
  sem1 .sl PP (Instr.buildSlice T_Sint 0 #[]) ω15 fun (ρ17 : Sl) ω18 =>
  sem1 .sl PP (Builtin.append_ #[T_Sint, T_Sint] T_Sint #[Sl.v ρ17, Sl.v p_1]) ω18 fun (ρ19 : Sl) ω20 =>
  sem1 .sl PP (Instr.buildSlice T_SSint 1 #[(0, Sl.v ρ19)]) ω20 fun (ρ21 : Sl) ω22 =>
  sem1 .sl PP (Builtin.append_ #[T_SSint, T_SSint] T_SSint #[Sl.v s16, Sl.v ρ21]) ω22 fun (ρ23 : Sl) ω24 =>
  sem1 .sl PP (Builtin.append_ #[T_SSint, T_SSint] T_SSint #[Sl.v ρ23, Sl.v ρ13]) ω24 fun (ρ25 : Sl) ω26 =>
  R (.returned (Sl.v ρ25)) ω26))
  else (
  sem1 .sl PP (Instr.buildSlice T_SSint 0 #[]) w fun (ρ27 : Sl) ω28 =>
  cutK 1 list_0 (some at_5) none fun (s29 : Sl) =>
  sem1 .sl PP (Builtin.append_ #[T_SSint, T_SSint] T_SSint #[Sl.v ρ27, Sl.v s29]) ω28 fun (ρ30 : Sl) ω31 =>
  drewAll ω31 fun ω32 =>
  cutK 1 list_0 none (some at_5) fun (s33 : Sl) =>
  sem1 .sl PP (Instr.buildSlice T_Sint 0 #[]) ω32 fun (ρ34 : Sl) ω35 =>
  sem1 .sl PP (Builtin.append_ #[T_Sint, T_Sint] T_Sint #[Sl.v ρ34, Sl.v p_1]) ω35 fun (ρ36 : Sl) ω37 =>
  sem1 .sl PP (Instr.buildSlice T_SSint 1 #[(0, Sl.v ρ36)]) ω37 fun (ρ38 : Sl) ω39 =>
  sem1 .sl PP (Builtin.append_ #[T_SSint, T_SSint] T_SSint #[Sl.v s33, Sl.v ρ38]) ω39 fun (ρ40 : Sl) ω41 =>
  sem1 .sl PP (Builtin.append_ #[T_SSint, T_SSint] T_SSint #[Sl.v ρ40, Sl.v ρ30]) ω41 fun (ρ42 : Sl) ω43 =>
  R (.returned (Sl.v ρ42)) ω43)) := A2_0_eq std list_0 p_1 at_5 w R
theorem E_eq (pr : Prims) (list_0 : Sl) (p_1 : Sl) (w : World) (R : Ending → World → Prop) : E pr list_0 p_1 w R = (
  L2 pr list_0 p_1 (list_0.n : Int) w (q1 pr R)) := by kernel_rfl
theorem E_s (list_0 : Sl) (p_1 : Sl) (w : World) (R : Ending → World → Prop) : E std list_0 p_1 w R = (
  L2 std list_0 p_1 (list_0.n : Int) w (q1 std R)) := E_eq std list_0 p_1 w R
theorem drawsOk : drawsOk PP cfg okD (codeOf Tryz.f126) = true := by kernel_rfl
theorem calls (list_0 : Sl) (p_1 : Sl) {w : World} {R : Ending → World → Prop} (h : E std list_0 p_1 w R) : Calls PP F.spec_l3Put #[Sl.v list_0, Sl.v p_1] w R :=
  calls_of noCount mixed drawOk Tryz.func126 rfl (c := cfg) (args := [Sl.v list_0, Sl.v p_1]) rfl (Nat.le_of_ble_eq_true (by kernel_rfl)) drawsOk h
end spec_l3Put

end Go.Proofs.YteplokddaebbeaaGreat

/- Steps beside a cursor. -/
namespace Go.Proofs.YteplokddaebbeaaGreat
open Go Go.RowKit
set_option maxRecDepth 100000

structure Dr (w0 wb w : World) (c : Addr) : Prop where
  cur : Cur w0 w c
  keeps : Keeps (CS c) wb w
  lt : c.block < wb.heap.size
theorem Dr.start {w0 w c} (h : Cur w0 w c) : Dr w0 w w c := ⟨h, Keeps.refl _ _, h.lt.2⟩
theorem Dr.step {w0 wb w w' c} {S : Nat → Prop} (h : Dr w0 wb w c) (hk : Keeps S w w') (hS : ∀ k, S k → wb.heap.size ≤ k) : Dr w0 wb w' c := by
  have h1 := h.cur.lt
  have h2 := h.lt
  have h3 := h.keeps.size
  refine ⟨h.cur.keeps hk fun k hk => ⟨?_, ?_⟩, ⟨hk.os.trans h.keeps.os, hk.tape.trans h.keeps.tape, hk.output.trans h.keeps.output, Nat.le_trans h3 hk.size, fun x hx hn => ?_⟩, h2⟩
  · have := hS k hk; omega
  · have := hS k hk; omega
  · exact (hk.block x (by omega) (fun hs => by have := hS x hs; omega)).trans (h.keeps.block x hx hn)
theorem Dr.grow {w0 wb w w' c} (h : Dr w0 wb w c) (hb : Below w.heap.size w w') : Dr w0 wb w' c :=
  h.step (keeps_grown (grow_of_below hb)) fun k hk => by cases hk
theorem Dr.curs {w0 wb w w' c} (h : Dr w0 wb w c) (hc : Cur w0 w' c) (hk : Keeps (CS c) w w') : Dr w0 wb w' c := ⟨hc, h.keeps.trans hk, h.lt⟩
end Go.Proofs.YteplokddaebbeaaGreat

/- What each function does, step by step, written by a program (Gen.lean); each equation is checked by the kernel. -/
namespace Go.Proofs.YteplokddaebbeaaGreat
open Go
set_option linter.unusedVariables false
set_option maxRecDepth 100000
namespace spec_IsBasis
@[reducible] def cfg : Cfg := ⟨59, [(7, [0, 3, 4]), (2, [0, 3])], [(3, [0, 3, 4]), (2, [0, 3]), (1, [0, 3]), (0, [0])], [(10, [0, 3, 4, 55])], [2], [4], [13, 12, 21, 89, 36, 108, 74, 75, 104, 78, 125], [73, 117, 103, 46, 4, 30, 40]⟩
def q0 (pr : Prims) (R : Ending → World → Prop) : Exit → Env → World → Prop := fun ex e w => normQ ex (fun e w => contE pr cfg (sub (codeOf Tryz.f39) [1, 1]) (fun e w => wpC pr PP cfg (DD pr) (sub (codeOf Tryz.f39) [1, 1]) (retQ Tryz.f39.results.toList R) e w) e w) (retQ Tryz.f39.results.toList R) e w
def q1 (pr : Prims) (R : Ending → World → Prop) : Exit → Env → World → Prop := fun ex e w => blockQ ex 0 (q0 pr R) e w
def q2 (pr : Prims) (k : Env → World → Prop) (Q : Exit → Env → World → Prop) : Exit → Env → World → Prop := fun ex e w => normQ ex (fun e w => contE pr cfg (sub (codeOf Tryz.f39) [1, 0, 1, 0, 0, 1, 1]) (fun e w => wpC pr PP cfg (DD pr) (sub (codeOf Tryz.f39) [1, 0, 1, 0, 0, 1, 1]) (fun ex e w => normQ ex (fun e' w' => k (Env.restr e' (lookN cfg.loops (keyOf (sub (codeOf Tryz.f39) [1, 0, 1, 0, 0])))) w') Q e w) e w) e w) (fun ex e w => normQ ex (fun e' w' => k (Env.restr e' (lookN cfg.loops (keyOf (sub (codeOf Tryz.f39) [1, 0, 1, 0, 0])))) w') Q e w) e w
def q3 (pr : Prims) (k : Env → World → Prop) (Q : Exit → Env → World → Prop) : Exit → Env → World → Prop := fun ex e w => blockQ ex 1 (q2 pr k Q) e w
def q17 (pr : Prims) (k : Env → World → Prop) (Q : Exit → Env → World → Prop) : Exit → Env → World → Prop := fun ex e w => blockQ ex 2 (q3 pr k Q) e w
def q18 (pr : Prims) (k : Env → World → Prop) (Q : Exit → Env → World → Prop) : Exit → Env → World → Prop := fun ex e w => normQ ex (fun e w => contE pr cfg (sub (codeOf Tryz.f39) [1, 0, 1, 0, 0, 1, 0, 0, 1, 1, 0, 0, 1, 1]) (fun e w => wpC pr PP cfg (DD pr) (sub (codeOf Tryz.f39) [1, 0, 1, 0, 0, 1, 0, 0, 1, 1, 0, 0, 1, 1]) (fun ex e w => normQ ex (fun e' w' => k (Env.restr e' (lookN cfg.loops (keyOf (sub (codeOf Tryz.f39) [1, 0, 1, 0, 0, 1, 0, 0, 1, 1, 0, 0])))) w') Q e w) e w) e w) (fun ex e w => normQ ex (fun e' w' => k (Env.restr e' (lookN cfg.loops (keyOf (sub (codeOf Tryz.f39) [1, 0, 1, 0, 0, 1, 0, 0, 1, 1, 0, 0])))) w') Q e w) e w
def q19 (pr : Prims) (k : Env → World → Prop) (Q : Exit → Env → World → Prop) : Exit → Env → World → Prop := fun ex e w => blockQ ex 3 (q18 pr k Q) e w
def q20 (pr : Prims) (k : Env → World → Prop) (Q : Exit → Env → World → Prop) : Exit → Env → World → Prop := fun ex e w => normQ ex (fun e w => contE pr cfg (sub (codeOf Tryz.f39) [1, 0, 1, 0, 0, 1, 0, 0, 1, 1, 0, 0, 1, 0, 0, 1]) (fun e w => wpC pr PP cfg (DD pr) (sub (codeOf Tryz.f39) [1, 0, 1, 0, 0, 1, 0, 0, 1, 1, 0, 0, 1, 0, 0, 1]) (q19 pr k Q) e w) e w) (q19 pr k Q) e w
def emb2 (list_0 : Sl) (k_3 : Int) : Env := [(0, Sl.v list_0), (3, vI k_3)]
def emb7 (list_0 : Sl) (k_3 : Int) (i_4 : Int) : Env := [(0, Sl.v list_0), (3, vI k_3), (4, vI i_4)]
def j10 (list_0 : Sl) (k_3 : Int) (i_4 : Int) (t55 : Bool) : Env := [(0, Sl.v list_0), (3, vI k_3), (4, vI i_4), (55, .bool t55)]
def x2 (list_0 : Sl) (k_3 : Int) : Env := [(0, Sl.v list_0), (3, vI k_3)]
def x0 (list_0 : Sl) : Env := [(0, Sl.v list_0)]
def S7 (pr : Prims) (Q : Exit → Env → World → Prop) : (Env → World → Prop) → Env → World → Prop := fun k e w => wpC pr PP cfg (DD pr) (sub (codeOf Tryz.f39) [1, 0, 1, 0, 0, 1, 0, 0, 1, 1, 0, 0]) (fun ex e w => normQ ex (fun e' w' => k (Env.restr e' (lookN cfg.loops (keyOf (sub (codeOf Tryz.f39) [1, 0, 1, 0, 0, 1, 0, 0, 1, 1, 0, 0])))) w') Q e w) e w
def S2 (pr : Prims) (Q : Exit → Env → World → Prop) : (Env → World → Prop) → Env → World → Prop := fun k e w => wpC pr PP cfg (DD pr) (sub (codeOf Tryz.f39) [1, 0, 1, 0, 0]) (fun ex e w => normQ ex (fun e' w' => k (Env.restr e' (lookN cfg.loops (keyOf (sub (codeOf Tryz.f39) [1, 0, 1, 0, 0])))) w') Q e w) e w
def J10 (pr : Prims) (list_0 : Sl) (k_3 : Int) (i_4 : Int) (t55 : Bool) (w : World) (k : Env → World → Prop) (Q : Exit → Env → World → Prop) : Prop :=
  pr.seg (fun e w => wpC pr PP cfg (DD pr) (sub (codeOf Tryz.f39) [1, 0, 1, 0, 0, 1, 0, 0, 1, 1, 0, 0, 1, 0, 0, 1]) (q19 pr k Q) e w) (j10 list_0 k_3 i_4 t55) w
def B7 (pr : Prims) (list_0 : Sl) (k_3 : Int) (i_4 : Int) (w : World) (k : Env → World → Prop) (Q : Exit → Env → World → Prop) : Prop :=
  S7 pr Q k (emb7 list_0 k_3 i_4) w
def L7 (pr : Prims) (list_0 : Sl) (k_3 : Int) (i_4 : Int) (w : World) (Q : Exit → Env → World → Prop) : Prop :=
  pr.loop (S7 pr Q) (emb7 list_0 k_3 i_4) w
def B2 (pr : Prims) (list_0 : Sl) (k_3 : Int) (w : World) (k : Env → World → Prop) (Q : Exit → Env → World → Prop) : Prop :=
  S2 pr Q k (emb2 list_0 k_3) w
def L2 (pr : Prims) (list_0 : Sl) (k_3 : Int) (w : World) (Q : Exit → Env → World → Prop) : Prop :=
  pr.loop (S2 pr Q) (emb2 list_0 k_3) w
def E (pr : Prims) (list_0 : Sl) (w : World) (R : Ending → World → Prop) : Prop :=
  wpC pr PP cfg (DD pr) (codeOf Tryz.f39) (retQ Tryz.f39.results.toList R) (argE 0 [Sl.v list_0]) w
theorem J10_gen (pr : Prims) (list_0 : Sl) (k_3 : Int) (i_4 : Int) (t55 : Bool) (w : World) (k : Env → World → Prop) (Q : Exit → Env → World → Prop) : wpC pr PP cfg (DD pr) (sub (codeOf Tryz.f39) [1, 0, 1, 0, 0, 1, 0, 0, 1, 1, 0, 0, 1, 0, 0, 1]) (q19 pr k Q) (j10 list_0 k_3 i_4 t55) w = (
  bif t55 then (
  Q .ret [(2, .bool false)] w)
  else (
  k (emb7 list_0 k_3 (w64 (i_4 + 1))) w)) := by kernel_rfl
theorem J10_s (list_0 : Sl) (k_3 : Int) (i_4 : Int) (t55 : Bool) (w : World) (k : Env → World → Prop) (Q : Exit → Env → World → Prop) : J10 std list_0 k_3 i_4 t55 w k Q = (
  bif t55 then (
  Q .ret [(2, .bool false)] w)
  else (
  k (emb7 list_0 k_3 (w64 (i_4 + 1))) w)) := J10_gen std list_0 k_3 i_4 t55 w k Q
theorem B7_eq (pr : Prims) (list_0 : Sl) (k_3 : Int) (i_4 : Int) (w : World) (k : Env → World → Prop) (Q : Exit → Env → World → Prop) : B7 pr list_0 k_3 i_4 w k Q = (
  bif decide (i_4 < k_3) then (
  pr.drewAll w fun ω21 =>
  pr.idxK 1 list_0 k_3 fun (a22 : Addr) =>
  pr.idxK 1 list_0 i_4 fun (a23 : Addr) =>
  (pr.load1 .sl a22 ω21 fun (ξ24 : Sl) =>
  pr.load1 .sl a23 ω21 fun (ξ25 : Sl) =>
  pr.call1 .bool PP F.spec_l7Has #[Sl.v ξ24, Sl.v ξ25] ω21 fun (ρ26 : Bool) ω27 =>
  J10 pr list_0 k_3 i_4 ρ26 ω27 k Q) ∧
  (pr.load1 .sl a23 ω21 fun (ξ28 : Sl) =>
  pr.load1 .sl a22 ω21 fun (ξ29 : Sl) =>
  pr.call1 .bool PP F.spec_l7Has #[Sl.v ξ29, Sl.v ξ28] ω21 fun (ρ30 : Bool) ω31 =>
  J10 pr list_0 k_3 i_4 ρ30 ω31 k Q))
  else (
  Q (.exit 2) (x2 list_0 k_3) w)) := by kernel_rfl
theorem B7_s (list_0 : Sl) (k_3 : Int) (i_4 : Int) (w : World) (k : Env → World → Prop) (Q : Exit → Env → World → Prop) : B7 std list_0 k_3 i_4 w k Q = (
  bif decide (i_4 < k_3) then (
  drewAll w fun ω21 =>
  idxK 1 list_0 k_3 fun (a22 : Addr) =>
  idxK 1 list_0 i_4 fun (a23 : Addr) =>
  (load1 .sl a22 ω21 fun (ξ24 : Sl) =>
  load1 .sl a23 ω21 fun (ξ25 : Sl) =>
  call1 .bool PP F.spec_l7Has #[Sl.v ξ24, Sl.v ξ25] ω21 fun (ρ26 : Bool) ω27 =>
  J10 std list_0 k_3 i_4 ρ26 ω27 k Q) ∧
  (load1 .sl a23 ω21 fun (ξ28 : Sl) =>
  load1 .sl a22 ω21 fun (ξ29 : Sl) =>
  call1 .bool PP F.spec_l7Has #[Sl.v ξ29, Sl.v ξ28] ω21 fun (ρ30 : Bool) ω31 =>
  J10 std list_0 k_3 i_4 ρ30 ω31 k Q))
  else (
  Q (.exit 2) (x2 list_0 k_3) w)) := B7_eq std list_0 k_3 i_4 w k Q
theorem L7_rule (list_0 : Sl) (k_3 : Int) (i_4 : Int) (w : World) (Q : Exit → Env → World → Prop) (I : Int → World → Prop) (μ : Int → World → Nat) (h0 : I i_4 w)
    (h : ∀ (i_4 : Int) (w' : World), I i_4 w' → B7 std list_0 k_3 i_4 w' (fun e2 w2 => ∃ i_4_n, e2 = emb7 list_0 k_3 i_4_n ∧ I i_4_n w2 ∧ μ i_4_n w2 < μ i_4 w') Q) :
    L7 std list_0 k_3 i_4 w Q := by
  unfold L7
  refine LoopE.intro (σ := Int) (step := S7 std Q) (fun s => emb7 list_0 k_3 s) (fun s w => I s w) (fun s w => μ s w) i_4 rfl h0 ?_
  intro s w' hI
  have h1 := h s w' hI
  unfold B7 at h1
  exact h1
theorem A7_2_eq (pr : Prims) (list_0 : Sl) (k_3 : Int) (w : World) (k : Env → World → Prop) (Q : Exit → Env → World → Prop) : (q17 pr k Q) (.exit 2) (x2 list_0 k_3) w = (
  k (emb2 list_0 (w64 (k_3 + 1))) w) := by kernel_rfl
theorem A7_2_s (list_0 : Sl) (k_3 : Int) (w : World) (k : Env → World → Prop) (Q : Exit → Env → World → Prop) : (q17 std k Q) (.exit 2) (x2 list_0 k_3) w = (
  k (emb2 list_0 (w64 (k_3 + 1))) w) := A7_2_eq std list_0 k_3 w k Q
theorem R7_eq (pr : Prims) (v2 : Value) (w : World) (k : Env → World → Prop) (Q : Exit → Env → World → Prop) : (q17 pr k Q) .ret [(2, v2)] w = (
  Q .ret [(2, v2)] w) := by kernel_rfl
theorem R7_s (v2 : Value) (w : World) (k : Env → World → Prop) (Q : Exit → Env → World → Prop) : (q17 std k Q) .ret [(2, v2)] w = (
  Q .ret [(2, v2)] w) := R7_eq std v2 w k Q
theorem B2_eq (pr : Prims) (list_0 : Sl) (k_3 : Int) (w : World) (k : Env → World → Prop) (Q : Exit → Env → World → Prop) : B2 pr list_0 k_3 w k Q = (
  bif decide (k_3 < (list_0.n : Int)) then (
  pr.idxK 1 list_0 k_3 fun (a4 : Addr) =>
  pr.load1 .sl a4 w fun (ξ5 : Sl) =>
  pr.qcall1 .bool PP F.spec_IsPerm #[Sl.v ξ5] w fun (ρ6 : Bool) =>
  bif !ρ6 then (
  pr.drewAll w fun ω7 =>
  Q .ret [(2, .bool false)] ω7)
  else (
  pr.idxK 1 list_0 k_3 fun (a8 : Addr) =>
  pr.load1 .sl a8 w fun (ξ9 : Sl) =>
  bif (ξ9.n : Int) == 0 then (
  pr.drewAll w fun ω10 =>
  Q .ret [(2, .bool false)] ω10)
  else (
  bif decide (k_3 > 0) then (
  pr.idxK 1 list_0 (w64 (k_3 - 1)) fun (a11 : Addr) =>
  pr.load1 .sl a11 w fun (ξ12 : Sl) =>
  pr.idxK 1 list_0 k_3 fun (a13 : Addr) =>
  pr.load1 .sl a13 w fun (ξ14 : Sl) =>
  pr.qcall1 .bool PP F.spec_l2Before #[Sl.v ξ12, Sl.v ξ14] w fun (ρ15 : Bool) =>
  pr.drewAll w fun ω16 =>
  bif !ρ15 then (
  Q .ret [(2, .bool false)] ω16)
  else (
  L7 pr list_0 k_3 0 ω16 (q17 pr k Q)))
  else (
  pr.drewAll w fun ω32 =>
  L7 pr list_0 k_3 0 ω32 (q17 pr k Q)))))
  else (
  Q (.exit 0) (x0 list_0) w)) := by kernel_rfl
theorem B2_s (list_0 : Sl) (k_3 : Int) (w : World) (k : Env → World → Prop) (Q : Exit → Env → World → Prop) : B2 std list_0 k_3 w k Q = (
  bif decide (k_3 < (list_0.n : Int)) then (
  idxK 1 list_0 k_3 fun (a4 : Addr) =>
  load1 .sl a4 w fun (ξ5 : Sl) =>
  qcall1 .bool PP F.spec_IsPerm #[Sl.v ξ5] w fun (ρ6 : Bool) =>
  bif !ρ6 then (
  drewAll w fun ω7 =>
  Q .ret [(2, .bool false)] ω7)
  else (
  idxK 1 list_0 k_3 fun (a8 : Addr) =>
  load1 .sl a8 w fun (ξ9 : Sl) =>
  bif (ξ9.n : Int) == 0 then (
  drewAll w fun ω10 =>
  Q .ret [(2, .bool false)] ω10)
  else (
  bif decide (k_3 > 0) then (
  idxK 1 list_0 (w64 (k_3 - 1)) fun (a11 : Addr) =>
  load1 .sl a11 w fun (ξ12 : Sl) =>
  idxK 1 list_0 k_3 fun (a13 : Addr) =>
  load1 .sl a13 w fun (ξ14 : Sl) =>
  qcall1 .bool PP F.spec_l2Before #[Sl.v ξ12, Sl.v ξ14] w fun (ρ15 : Bool) =>
  drewAll w fun ω16 =>
  bif !ρ15 then (
  Q .ret [(2, .bool false)] ω16)
  else (
  L7 std list_0 k_3 0 ω16 (q17 std k Q)))
  else (
  drewAll w fun ω32 =>
  L7 std list_0 k_3 0 ω32 (q17 std k Q)))))
  else (
  Q (.exit 0) (x0 list_0) w)) := B2_eq std list_0 k_3 w k Q
theorem L2_rule (list_0 : Sl) (k_3 : Int) (w : World) (Q : Exit → Env → World → Prop) (I : Int → World → Prop) (μ : Int → World → Nat) (h0 : I k_3 w)
    (h : ∀ (k_3 : Int) (w' : World), I k_3 w' → B2 std list_0 k_3 w' (fun e2 w2 => ∃ k_3_n, e2 = emb2 list_0 k_3_n ∧ I k_3_n w2 ∧ μ k_3_n w2 < μ k_3 w') Q) :
    L2 std list_0 k_3 w Q := by
  unfold L2
  refine LoopE.intro (σ := Int) (step := S2 std Q) (fun s => emb2 list_0 s) (fun s w => I s w) (fun s w => μ s w) k_3 rfl h0 ?_
  intro s w' hI
  have h1 := h s w' hI
  unfold B2 at h1
  exact h1
theorem A2_0_eq (pr : Prims) (list_0 : Sl) (w : World) (R : Ending → World → Prop) : (q1 pr R) (.exit 0) (x0 list_0) w = (
  R (.returned (.bool (decide ((list_0.n : Int) ≤ 8)))) w) := by kernel_rfl
theorem A2_0_s (list_0 : Sl) (w : World) (R : Ending → World → Prop) : (q1 std R) (.exit 0) (x0 list_0) w = (
  R (.returned (.bool (decide ((list_0.n : Int) ≤ 8)))) w) := A2_0_eq std list_0 w R
theorem R2_eq (pr : Prims) (v2 : Value) (w : World) (R : Ending → World → Prop) : (q1 pr R) .ret [(2, v2)] w = (
  R (.returned (v2)) w) := by kernel_rfl
theorem R2_s (v2 : Value) (w : World) (R : Ending → World → Prop) : (q1 std R) .ret [(2, v2)] w = (
  R (.returned (v2)) w) := R2_eq std v2 w R
theorem E_eq (pr : Prims) (list_0 : Sl) (w : World) (R : Ending → World → Prop) : E pr list_0 w R = (
  L2 pr list_0 0 w (q1 pr R)) := by kernel_rfl
theorem E_s (list_0 : Sl) (w : World) (R : Ending → World → Prop) : E std list_0 w R = (
  L2 std list_0 0 w (q1 std R)) := E_eq std list_0 w R
theorem drawsOk : drawsOk PP cfg okD (codeOf Tryz.f39) = true := by kernel_rfl
theorem calls (list_0 : Sl) {w : World} {R : Ending → World → Prop} (h : E std list_0 w R) : Calls PP F.spec_IsBasis #[Sl.v list_0] w R :=
  calls_of noCount mixed drawOk Tryz.func39 rfl (c := cfg) (args := [Sl.v list_0]) rfl (Nat.le_of_ble_eq_true (by kernel_rfl)) drawsOk h
end spec_IsBasis

namespace impl_IsBasis
@[reducible] def cfg : Cfg := ⟨52, [(9, [0, 4, 10, 11, 12, 41, 42, 43]), (4, [0, 10, 11, 12])], [(3, [0, 4, 10, 11, 12, 41, 42, 43]), (2, [0, 10, 11, 12]), (1, [0, 10, 11, 12]), (0, [])], [], [2], [], [13, 12, 21, 89, 36, 108, 74, 75, 104, 78, 125], [73, 117, 103, 46, 4, 30, 40]⟩
def q0 (pr : Prims) (R : Ending → World → Prop) : Exit → Env → World → Prop := fun ex e w => normQ ex (fun e w => contE pr cfg (sub (codeOf Tryz.f31) [1, 1, 1]) (fun e w => wpC pr PP cfg (DD pr) (sub (codeOf Tryz.f31) [1, 1, 1]) (retQ Tryz.f31.results.toList R) e w) e w) (retQ Tryz.f31.results.toList R) e w
def q1 (pr : Prims) (R : Ending → World → Prop) : Exit → Env → World → Prop := fun ex e w => blockQ ex 0 (q0 pr R) e w
def q2 (pr : Prims) (k : Env → World → Prop) (Q : Exit → Env → World → Prop) : Exit → Env → World → Prop := fun ex e w => normQ ex (fun e w => contE pr cfg (sub (codeOf Tryz.f31) [1, 1, 0, 1, 0, 0, 1, 1, 1]) (fun e w => wpC pr PP cfg (DD pr) (sub (codeOf Tryz.f31) [1, 1, 0, 1, 0, 0, 1, 1, 1]) (fun ex e w => normQ ex (fun e' w' => k (Env.restr e' (lookN cfg.loops (keyOf (sub (codeOf Tryz.f31) [1, 1, 0, 1, 0, 0])))) w') Q e w) e w) e w) (fun ex e w => normQ ex (fun e' w' => k (Env.restr e' (lookN cfg.loops (keyOf (sub (codeOf Tryz.f31) [1, 1, 0, 1, 0, 0])))) w') Q e w) e w
def q3 (pr : Prims) (k : Env → World → Prop) (Q : Exit → Env → World → Prop) : Exit → Env → World → Prop := fun ex e w => blockQ ex 1 (q2 pr k Q) e w
def q13 (pr : Prims) (k : Env → World → Prop) (Q : Exit → Env → World → Prop) : Exit → Env → World → Prop := fun ex e w => blockQ ex 2 (q3 pr k Q) e w
def emb4 (list_0 : Sl) (t10 : Sl) (t11 : Int) (t12 : Int) : Env := [(0, Sl.v list_0), (10, Sl.v t10), (11, vI t11), (12, vI t12)]
def emb9 (list_0 : Sl) (p_4 : Sl) (t10 : Sl) (t11 : Int) (t12 : Int) (t41 : Sl) (t42 : Int) (t43 : Int) : Env := [(0, Sl.v list_0), (4, Sl.v p_4), (10, Sl.v t10), (11, vI t11), (12, vI t12), (41, Sl.v t41), (42, vI t42), (43, vI t43)]
def x2 (list_0 : Sl) (t10 : Sl) (t11 : Int) (t12 : Int) : Env := [(0, Sl.v list_0), (10, Sl.v t10), (11, vI t11), (12, vI t12)]
def x0 : Env := []
def S9 (pr : Prims) (Q : Exit → Env → World → Prop) : (Env → World → Prop) → Env → World → Prop := fun k e w => wpC pr PP cfg (DD pr) (sub (codeOf Tryz.f31) [1, 1, 0, 1, 0, 0, 1, 1, 0, 0, 1, 1, 1, 0, 0]) (fun ex e w => normQ ex (fun e' w' => k (Env.restr e' (lookN cfg.loops (keyOf (sub (codeOf Tryz.f31) [1, 1, 0, 1, 0, 0, 1, 1, 0, 0, 1, 1, 1, 0, 0])))) w') Q e w) e w
def S4 (pr : Prims) (Q : Exit → Env → World → Prop) : (Env → World → Prop) → Env → World → Prop := fun k e w => wpC pr PP cfg (DD pr) (sub (codeOf Tryz.f31) [1, 1, 0, 1, 0, 0]) (fun ex e w => normQ ex (fun e' w' => k (Env.restr e' (lookN cfg.loops (keyOf (sub (codeOf Tryz.f31) [1, 1, 0, 1, 0, 0])))) w') Q e w) e w
def B9 (pr : Prims) (list_0 : Sl) (p_4 : Sl) (t10 : Sl) (t11 : Int) (t12 : Int) (t41 : Sl) (t42 : Int) (t43 : Int) (w : World) (k : Env → World → Prop) (Q : Exit → Env → World → Prop) : Prop :=
  S9 pr Q k (emb9 list_0 p_4 t10 t11 t12 t41 t42 t43) w
def L9 (pr : Prims) (list_0 : Sl) (p_4 : Sl) (t10 : Sl) (t11 : Int) (t12 : Int) (t41 : Sl) (t42 : Int) (t43 : Int) (w : World) (Q : Exit → Env → World → Prop) : Prop :=
  pr.loop (S9 pr Q) (emb9 list_0 p_4 t10 t11 t12 t41 t42 t43) w
def B4 (pr : Prims) (list_0 : Sl) (t10 : Sl) (t11 : Int) (t12 : Int) (w : World) (k : Env → World → Prop) (Q : Exit → Env → World → Prop) : Prop :=
  S4 pr Q k (emb4 list_0 t10 t11 t12) w
def L4 (pr : Prims) (list_0 : Sl) (t10 : Sl) (t11 : Int) (t12 : Int) (w : World) (Q : Exit → Env → World → Prop) : Prop :=
  pr.loop (S4 pr Q) (emb4 list_0 t10 t11 t12) w
def E (pr : Prims) (list_0 : Sl) (w : World) (R : Ending → World → Prop) : Prop :=
  wpC pr PP cfg (DD pr) (codeOf Tryz.f31) (retQ Tryz.f31.results.toList R) (argE 0 [Sl.v list_0]) w
theorem B9_eq (pr : Prims) (list_0 : Sl) (p_4 : Sl) (t10 : Sl) (t11 : Int) (t12 : Int) (t41 : Sl) (t42 : Int) (t43 : Int) (w : World) (k : Env → World → Prop) (Q : Exit → Env → World → Prop) : B9 pr list_0 p_4 t10 t11 t12 t41 t42 t43 w k Q = (
  bif decide (t43 < t42) then (
  pr.idxK 1 t41 t43 fun (a14 : Addr) =>
  pr.load1 .sl a14 w fun (ξ15 : Sl) =>
  pr.call1 .bool PP F.impl_has #[Sl.v p_4, Sl.v ξ15, Sl.v Sl.nil] w fun (ρ16 : Bool) ω17 =>
  bif ρ16 then (
  Q .ret [(2, .bool false)] ω17)
  else (
  k (emb9 list_0 p_4 t10 t11 t12 t41 t42 (w64 (t43 + 1))) ω17))
  else (
  Q (.exit 2) (x2 list_0 t10 t11 t12) w)) := by kernel_rfl
theorem B9_s (list_0 : Sl) (p_4 : Sl) (t10 : Sl) (t11 : Int) (t12 : Int) (t41 : Sl) (t42 : Int) (t43 : Int) (w : World) (k : Env → World → Prop) (Q : Exit → Env → World → Prop) : B9 std list_0 p_4 t10 t11 t12 t41 t42 t43 w k Q = (
  bif decide (t43 < t42) then (
  idxK 1 t41 t43 fun (a14 : Addr) =>
  load1 .sl a14 w fun (ξ15 : Sl) =>
  call1 .bool PP F.impl_has #[Sl.v p_4, Sl.v ξ15, Sl.v Sl.nil] w fun (ρ16 : Bool) ω17 =>
  bif ρ16 then (
  Q .ret [(2, .bool false)] ω17)
  else (
  k (emb9 list_0 p_4 t10 t11 t12 t41 t42 (w64 (t43 + 1))) ω17))
  else (
  Q (.exit 2) (x2 list_0 t10 t11 t12) w)) := B9_eq std list_0 p_4 t10 t11 t12 t41 t42 t43 w k Q
theorem L9_rule (list_0 : Sl) (p_4 : Sl) (t10 : Sl) (t11 : Int) (t12 : Int) (t41 : Sl) (t42 : Int) (t43 : Int) (w : World) (Q : Exit → Env → World → Prop) (I : Int → World → Prop) (μ : Int → World → Nat) (h0 : I t43 w)
    (h : ∀ (t43 : Int) (w' : World), I t43 w' → B9 std list_0 p_4 t10 t11 t12 t41 t42 t43 w' (fun e2 w2 => ∃ t43_n, e2 = emb9 list_0 p_4 t10 t11 t12 t41 t42 t43_n ∧ I t43_n w2 ∧ μ t43_n w2 < μ t43 w') Q) :
    L9 std list_0 p_4 t10 t11 t12 t41 t42 t43 w Q := by
  unfold L9
  refine LoopE.intro (σ := Int) (step := S9 std Q) (fun s => emb9 list_0 p_4 t10 t11 t12 t41 t42 s) (fun s w => I s w) (fun s w => μ s w) t43 rfl h0 ?_
  intro s w' hI
  have h1 := h s w' hI
  unfold B9 at h1
  exact h1
theorem A9_2_eq (pr : Prims) (list_0 : Sl) (t10 : Sl) (t11 : Int) (t12 : Int) (w : World) (k : Env → World → Prop) (Q : Exit → Env → World → Prop) : (q13 pr k Q) (.exit 2) (x2 list_0 t10 t11 t12) w = (
  k (emb4 list_0 t10 t11 (w64 (t12 + 1))) w) := by kernel_rfl
theorem A9_2_s (list_0 : Sl) (t10 : Sl) (t11 : Int) (t12 : Int) (w : World) (k : Env → World → Prop) (Q : Exit → Env → World → Prop) : (q13 std k Q) (.exit 2) (x2 list_0 t10 t11 t12) w = (
  k (emb4 list_0 t10 t11 (w64 (t12 + 1))) w) := A9_2_eq std list_0 t10 t11 t12 w k Q
theorem R9_eq (pr : Prims) (v2 : Value) (w : World) (k : Env → World → Prop) (Q : Exit → Env → World → Prop) : (q13 pr k Q) .ret [(2, v2)] w = (
  Q .ret [(2, v2)] w) := by kernel_rfl
theorem R9_s (v2 : Value) (w : World) (k : Env → World → Prop) (Q : Exit → Env → World → Prop) : (q13 std k Q) .ret [(2, v2)] w = (
  Q .ret [(2, v2)] w) := R9_eq std v2 w k Q
theorem B4_eq (pr : Prims) (list_0 : Sl) (t10 : Sl) (t11 : Int) (t12 : Int) (w : World) (k : Env → World → Prop) (Q : Exit → Env → World → Prop) : B4 pr list_0 t10 t11 t12 w k Q = (
  bif decide (t12 < t11) then (
  pr.idxK 1 t10 t12 fun (a4 : Addr) =>
  pr.load1 .sl a4 w fun (ξ5 : Sl) =>
  pr.call1 .bool PP F.impl_IsPerm #[Sl.v ξ5] w fun (ρ6 : Bool) ω7 =>
  bif !ρ6 then (
  Q .ret [(2, .bool false)] ω7)
  else (
  bif (ξ5.n : Int) == 0 then (
  Q .ret [(2, .bool false)] ω7)
  else (
  bif decide (t12 > 0) then (
  pr.idxK 1 list_0 (w64 (t12 - 1)) fun (a8 : Addr) =>
  pr.load1 .sl a8 ω7 fun (ξ9 : Sl) =>
  pr.call1 (.int .i64) PP F.impl_comparePerms #[Sl.v ξ9, Sl.v ξ5] ω7 fun (ρ10 : Int) ω11 =>
  bif decide (ρ10 ≥ 0) then (
  Q .ret [(2, .bool false)] ω11)
  else (
  pr.cutK 1 list_0 none (some t12) fun (s12 : Sl) =>
  L9 pr list_0 ξ5 t10 t11 t12 s12 (s12.n : Int) 0 ω11 (q13 pr k Q)))
  else (
  pr.cutK 1 list_0 none (some t12) fun (s18 : Sl) =>
  L9 pr list_0 ξ5 t10 t11 t12 s18 (s18.n : Int) 0 ω7 (q13 pr k Q)))))
  else (
  Q (.exit 0) (x0) w)) := by kernel_rfl
theorem B4_s (list_0 : Sl) (t10 : Sl) (t11 : Int) (t12 : Int) (w : World) (k : Env → World → Prop) (Q : Exit → Env → World → Prop) : B4 std list_0 t10 t11 t12 w k Q = (
  bif decide (t12 < t11) then (
  idxK 1 t10 t12 fun (a4 : Addr) =>
  load1 .sl a4 w fun (ξ5 : Sl) =>
  call1 .bool PP F.impl_IsPerm #[Sl.v ξ5] w fun (ρ6 : Bool) ω7 =>
  bif !ρ6 then (
  Q .ret [(2, .bool false)] ω7)
  else (
  bif (ξ5.n : Int) == 0 then (
  Q .ret [(2, .bool false)] ω7)
  else (
  bif decide (t12 > 0) then (
  idxK 1 list_0 (w64 (t12 - 1)) fun (a8 : Addr) =>
  load1 .sl a8 ω7 fun (ξ9 : Sl) =>
  call1 (.int .i64) PP F.impl_comparePerms #[Sl.v ξ9, Sl.v ξ5] ω7 fun (ρ10 : Int) ω11 =>
  bif decide (ρ10 ≥ 0) then (
  Q .ret [(2, .bool false)] ω11)
  else (
  cutK 1 list_0 none (some t12) fun (s12 : Sl) =>
  L9 std list_0 ξ5 t10 t11 t12 s12 (s12.n : Int) 0 ω11 (q13 std k Q)))
  else (
  cutK 1 list_0 none (some t12) fun (s18 : Sl) =>
  L9 std list_0 ξ5 t10 t11 t12 s18 (s18.n : Int) 0 ω7 (q13 std k Q)))))
  else (
  Q (.exit 0) (x0) w)) := B4_eq std list_0 t10 t11 t12 w k Q
theorem L4_rule (list_0 : Sl) (t10 : Sl) (t11 : Int) (t12 : Int) (w : World) (Q : Exit → Env → World → Prop) (I : Int → World → Prop) (μ : Int → World → Nat) (h0 : I t12 w)
    (h : ∀ (t12 : Int) (w' : World), I t12 w' → B4 std list_0 t10 t11 t12 w' (fun e2 w2 => ∃ t12_n, e2 = emb4 list_0 t10 t11 t12_n ∧ I t12_n w2 ∧ μ t12_n w2 < μ t12 w') Q) :
    L4 std list_0 t10 t11 t12 w Q := by
  unfold L4
  refine LoopE.intro (σ := Int) (step := S4 std Q) (fun s => emb4 list_0 t10 t11 s) (fun s w => I s w) (fun s w => μ s w) t12 rfl h0 ?_
  intro s w' hI
  have h1 := h s w' hI
  unfold B4 at h1
  exact h1
theorem A4_0_eq (pr : Prims) (w : World) (R : Ending → World → Prop) : (q1 pr R) (.exit 0) (x0) w = (
  R (.returned (.bool true)) w) := by kernel_rfl
theorem A4_0_s (w : World) (R : Ending → World → Prop) : (q1 std R) (.exit 0) (x0) w = (
  R (.returned (.bool true)) w) := A4_0_eq std w R
theorem R4_eq (pr : Prims) (v2 : Value) (w : World) (R : Ending → World → Prop) : (q1 pr R) .ret [(2, v2)] w = (
  R (.returned (v2)) w) := by kernel_rfl
theorem R4_s (v2 : Value) (w : World) (R : Ending → World → Prop) : (q1 std R) .ret [(2, v2)] w = (
  R (.returned (v2)) w) := R4_eq std v2 w R
theorem E_eq (pr : Prims) (list_0 : Sl) (w : World) (R : Ending → World → Prop) : E pr list_0 w R = (
  bif decide ((list_0.n : Int) > 8) then (
  R (.returned (.bool false)) w)
  else (
  L4 pr list_0 list_0 (list_0.n : Int) 0 w (q1 pr R))) := by kernel_rfl
theorem E_s (list_0 : Sl) (w : World) (R : Ending → World → Prop) : E std list_0 w R = (
  bif decide ((list_0.n : Int) > 8) then (
  R (.returned (.bool false)) w)
  else (
  L4 std list_0 list_0 (list_0.n : Int) 0 w (q1 std R))) := E_eq std list_0 w R
theorem drawsOk : drawsOk PP cfg okD (codeOf Tryz.f31) = true := by kernel_rfl
theorem calls (list_0 : Sl) {w : World} {R : Ending → World → Prop} (h : E std list_0 w R) : Calls PP F.impl_IsBasis #[Sl.v list_0] w R :=
  calls_of noCount mixed drawOk Tryz.func31 rfl (c := cfg) (args := [Sl.v list_0]) rfl (Nat.le_of_ble_eq_true (by kernel_rfl)) drawsOk h
end impl_IsBasis

namespace spec_l2Before
@[reducible] def cfg : Cfg := ⟨40, [(4, [0, 1, 5])], [(1, [0, 1, 5]), (0, [])], [], [4], [6, 7], [13, 12, 21, 89, 36, 108, 74, 75, 104, 78, 125], [73, 117, 103, 46, 4, 30, 40]⟩
def q0 (pr : Prims) (R : Ending → World → Prop) : Exit → Env → World → Prop := fun ex e w => normQ ex (fun e w => contE pr cfg (sub (codeOf Tryz.f75) [1, 1, 1]) (fun e w => wpC pr PP cfg (DD pr) (sub (codeOf Tryz.f75) [1, 1, 1]) (retQ Tryz.f75.results.toList R) e w) e w) (retQ Tryz.f75.results.toList R) e w
def q1 (pr : Prims) (R : Ending → World → Prop) : Exit → Env → World → Prop := fun ex e w => blockQ ex 0 (q0 pr R) e w
def emb4 (a_0 : Sl) (b_1 : Sl) (k_5 : Int) : Env := [(0, Sl.v a_0), (1, Sl.v b_1), (5, vI k_5)]
def x0 : Env := []
def S4 (pr : Prims) (Q : Exit → Env → World → Prop) : (Env → World → Prop) → Env → World → Prop := fun k e w => wpC pr PP cfg (DD pr) (sub (codeOf Tryz.f75) [1, 1, 0, 1, 0, 0]) (fun ex e w => normQ ex (fun e' w' => k (Env.restr e' (lookN cfg.loops (keyOf (sub (codeOf Tryz.f75) [1, 1, 0, 1, 0, 0])))) w') Q e w) e w
def B4 (pr : Prims) (a_0 : Sl) (b_1 : Sl) (k_5 : Int) (w : World) (k : Env → World → Prop) (Q : Exit → Env → World → Prop) : Prop :=
  S4 pr Q k (emb4 a_0 b_1 k_5) w
def L4 (pr : Prims) (a_0 : Sl) (b_1 : Sl) (k_5 : Int) (w : World) (Q : Exit → Env → World → Prop) : Prop :=
  pr.loop (S4 pr Q) (emb4 a_0 b_1 k_5) w
def E (pr : Prims) (a_0 : Sl) (b_1 : Sl) (w : World) (R : Ending → World → Prop) : Prop :=
  wpC pr PP cfg (DD pr) (codeOf Tryz.f75) (retQ Tryz.f75.results.toList R) (argE 0 [Sl.v a_0, Sl.v b_1]) w
theorem B4_eq (pr : Prims) (a_0 : Sl) (b_1 : Sl) (k_5 : Int) (w : World) (k : Env → World → Prop) (Q : Exit → Env → World → Prop) : B4 pr a_0 b_1 k_5 w k Q = (
  bif decide (k_5 < (a_0.n : Int)) then (
  pr.idxK 1 a_0 k_5 fun (a2 : Addr) =>
  pr.load1 (.int .i64) a2 w fun (ξ3 : Int) =>
  pr.idxK 1 b_1 k_5 fun (a4 : Addr) =>
  pr.load1 (.int .i64) a4 w fun (ξ5 : Int) =>
  pr.drewAll w fun ω6 =>
  bif ξ3 != ξ5 then (
  pr.idxK 1 a_0 k_5 fun (a7 : Addr) =>
  pr.load1 (.int .i64) a7 ω6 fun (ξ8 : Int) =>
  pr.idxK 1 b_1 k_5 fun (a9 : Addr) =>
  pr.load1 (.int .i64) a9 ω6 fun (ξ10 : Int) =>
  pr.drewAll ω6 fun ω11 =>
  Q .ret [(4, .bool (decide (ξ8 < ξ10)))] ω11)
  else (
  k (emb4 a_0 b_1 (w64 (k_5 + 1))) ω6))
  else (
  Q (.exit 0) (x0) w)) := by kernel_rfl
theorem B4_s (a_0 : Sl) (b_1 : Sl) (k_5 : Int) (w : World) (k : Env → World → Prop) (Q : Exit → Env → World → Prop) : B4 std a_0 b_1 k_5 w k Q = (
  bif decide (k_5 < (a_0.n : Int)) then (
  idxK 1 a_0 k_5 fun (a2 : Addr) =>
  load1 (.int .i64) a2 w fun (ξ3 : Int) =>
  idxK 1 b_1 k_5 fun (a4 : Addr) =>
  load1 (.int .i64) a4 w fun (ξ5 : Int) =>
  drewAll w fun ω6 =>
  bif ξ3 != ξ5 then (
  idxK 1 a_0 k_5 fun (a7 : Addr) =>
  load1 (.int .i64) a7 ω6 fun (ξ8 : Int) =>
  idxK 1 b_1 k_5 fun (a9 : Addr) =>
  load1 (.int .i64) a9 ω6 fun (ξ10 : Int) =>
  drewAll ω6 fun ω11 =>
  Q .ret [(4, .bool (decide (ξ8 < ξ10)))] ω11)
  else (
  k (emb4 a_0 b_1 (w64 (k_5 + 1))) ω6))
  else (
  Q (.exit 0) (x0) w)) := B4_eq std a_0 b_1 k_5 w k Q
theorem L4_rule (a_0 : Sl) (b_1 : Sl) (k_5 : Int) (w : World) (Q : Exit → Env → World → Prop) (I : Int → World → Prop) (μ : Int → World → Nat) (h0 : I k_5 w)
    (h : ∀ (k_5 : Int) (w' : World), I k_5 w' → B4 std a_0 b_1 k_5 w' (fun e2 w2 => ∃ k_5_n, e2 = emb4 a_0 b_1 k_5_n ∧ I k_5_n w2 ∧ μ k_5_n w2 < μ k_5 w') Q) :
    L4 std a_0 b_1 k_5 w Q := by
  unfold L4
  refine LoopE.intro (σ := Int) (step := S4 std Q) (fun s => emb4 a_0 b_1 s) (fun s w => I s w) (fun s w => μ s w) k_5 rfl h0 ?_
  intro s w' hI
  have h1 := h s w' hI
  unfold B4 at h1
  exact h1
theorem A4_0_eq (pr : Prims) (w : World) (R : Ending → World → Prop) : (q1 pr R) (.exit 0) (x0) w = (
  R (.returned (.bool false)) w) := by kernel_rfl
theorem A4_0_s (w : World) (R : Ending → World → Prop) : (q1 std R) (.exit 0) (x0) w = (
  R (.returned (.bool false)) w) := A4_0_eq std w R
theorem R4_eq (pr : Prims) (v4 : Value) (w : World) (R : Ending → World → Prop) : (q1 pr R) .ret [(4, v4)] w = (
  R (.returned (v4)) w) := by kernel_rfl
theorem R4_s (v4 : Value) (w : World) (R : Ending → World → Prop) : (q1 std R) .ret [(4, v4)] w = (
  R (.returned (v4)) w) := R4_eq std v4 w R
theorem E_eq (pr : Prims) (a_0 : Sl) (b_1 : Sl) (w : World) (R : Ending → World → Prop) : E pr a_0 b_1 w R = (
  bif (a_0.n : Int) != (b_1.n : Int) then (
  R (.returned (.bool (decide ((a_0.n : Int) < (b_1.n : Int))))) w)
  else (
  L4 pr a_0 b_1 0 w (q1 pr R))) := by kernel_rfl
theorem E_s (a_0 : Sl) (b_1 : Sl) (w : World) (R : Ending → World → Prop) : E std a_0 b_1 w R = (
  bif (a_0.n : Int) != (b_1.n : Int) then (
  R (.returned (.bool (decide ((a_0.n : Int) < (b_1.n : Int))))) w)
  else (
  L4 std a_0 b_1 0 w (q1 std R))) := E_eq std a_0 b_1 w R
theorem drawsOk : drawsOk PP cfg okD (codeOf Tryz.f75) = true := by kernel_rfl
theorem calls (a_0 : Sl) (b_1 : Sl) {w : World} {R : Ending → World → Prop} (h : E std a_0 b_1 w R) : Calls PP F.spec_l2Before #[Sl.v a_0, Sl.v b_1] w R :=
  calls_of noCount mixed drawOk Tryz.func75 rfl (c := cfg) (args := [Sl.v a_0, Sl.v b_1]) rfl (Nat.le_of_ble_eq_true (by kernel_rfl)) drawsOk h
end spec_l2Before

namespace impl_comparePerms
@[reducible] def cfg : Cfg := ⟨15, [], [], [], [4], [], [13, 12, 21, 89, 36, 108, 74, 75, 104, 78, 125], [73, 117, 103, 46, 4, 30, 40]⟩
def E (pr : Prims) (p_0 : Sl) (q_1 : Sl) (w : World) (R : Ending → World → Prop) : Prop :=
  wpC pr PP cfg (DD pr) (codeOf Tryz.f65) (retQ Tryz.f65.results.toList R) (argE 0 [Sl.v p_0, Sl.v q_1]) w
theorem E_eq (pr : Prims) (p_0 : Sl) (q_1 : Sl) (w : World) (R : Ending → World → Prop) : E pr p_0 q_1 w R = (
  pr.pcall1 (.int .i64) PP F.cmp_Compare_int_ #[vI (p_0.n : Int), vI (q_1.n : Int)] fun (ρ0 : Int) =>
  pr.call1 (.int .i64) PP F.slices_Compare___int_int_ #[Sl.v p_0, Sl.v q_1] w fun (ρ1 : Int) ω2 =>
  pr.sem1 .sl PP (Instr.buildSlice T_Sint 2 #[(0, vI ρ0), (1, vI ρ1)]) ω2 fun (ρ3 : Sl) ω4 =>
  pr.call1 (.int .i64) PP F.cmp_Or_int_ #[Sl.v ρ3] ω4 fun (ρ5 : Int) ω6 =>
  R (.returned (vI ρ5)) ω6) := by kernel_rfl
theorem E_s (p_0 : Sl) (q_1 : Sl) (w : World) (R : Ending → World → Prop) : E std p_0 q_1 w R = (
  pcall1 (.int .i64) PP F.cmp_Compare_int_ #[vI (p_0.n : Int), vI (q_1.n : Int)] fun (ρ0 : Int) =>
  call1 (.int .i64) PP F.slices_Compare___int_int_ #[Sl.v p_0, Sl.v q_1] w fun (ρ1 : Int) ω2 =>
  sem1 .sl PP (Instr.buildSlice T_Sint 2 #[(0, vI ρ0), (1, vI ρ1)]) ω2 fun (ρ3 : Sl) ω4 =>
  call1 (.int .i64) PP F.cmp_Or_int_ #[Sl.v ρ3] ω4 fun (ρ5 : Int) ω6 =>
  R (.returned (vI ρ5)) ω6) := E_eq std p_0 q_1 w R
theorem drawsOk : drawsOk PP cfg okD (codeOf Tryz.f65) = true := by kernel_rfl
theorem calls (p_0 : Sl) (q_1 : Sl) {w : World} {R : Ending → World → Prop} (h : E std p_0 q_1 w R) : Calls PP F.impl_comparePerms #[Sl.v p_0, Sl.v q_1] w R :=
  calls_of noCount mixed drawOk Tryz.func65 rfl (c := cfg) (args := [Sl.v p_0, Sl.v q_1]) rfl (Nat.le_of_ble_eq_true (by kernel_rfl)) drawsOk h
end impl_comparePerms

namespace cmp_Or_int_
@[reducible] def cfg : Cfg := ⟨18, [(3, [3, 6, 7, 8])], [(1, [3, 6, 7, 8]), (0, [3])], [], [2], [], [13, 12, 21, 89, 36, 108, 74, 75, 104, 78, 125], [73, 117, 103, 46, 4, 30, 40]⟩
def q0 (pr : Prims) (R : Ending → World → Prop) : Exit → Env → World → Prop := fun ex e w => normQ ex (fun e w => contE pr cfg (sub (codeOf Tryz.f87) [1, 1, 1]) (fun e w => wpC pr PP cfg (DD pr) (sub (codeOf Tryz.f87) [1, 1, 1]) (retQ Tryz.f87.results.toList R) e w) e w) (retQ Tryz.f87.results.toList R) e w
def q1 (pr : Prims) (R : Ending → World → Prop) : Exit → Env → World → Prop := fun ex e w => blockQ ex 0 (q0 pr R) e w
def emb3 (zero_3 : Int) (t6 : Sl) (t7 : Int) (t8 : Int) : Env := [(3, vI zero_3), (6, Sl.v t6), (7, vI t7), (8, vI t8)]
def x0 (zero_3 : Int) : Env := [(3, vI zero_3)]
def S3 (pr : Prims) (Q : Exit → Env → World → Prop) : (Env → World → Prop) → Env → World → Prop := fun k e w => wpC pr PP cfg (DD pr) (sub (codeOf Tryz.f87) [1, 1, 0, 1, 0, 0]) (fun ex e w => normQ ex (fun e' w' => k (Env.restr e' (lookN cfg.loops (keyOf (sub (codeOf Tryz.f87) [1, 1, 0, 1, 0, 0])))) w') Q e w) e w
def B3 (pr : Prims) (zero_3 : Int) (t6 : Sl) (t7 : Int) (t8 : Int) (w : World) (k : Env → World → Prop) (Q : Exit → Env → World → Prop) : Prop :=
  S3 pr Q k (emb3 zero_3 t6 t7 t8) w
def L3 (pr : Prims) (zero_3 : Int) (t6 : Sl) (t7 : Int) (t8 : Int) (w : World) (Q : Exit → Env → World → Prop) : Prop :=
  pr.loop (S3 pr Q) (emb3 zero_3 t6 t7 t8) w
def E (pr : Prims) (vals_0 : Sl) (w : World) (R : Ending → World → Prop) : Prop :=
  wpC pr PP cfg (DD pr) (codeOf Tryz.f87) (retQ Tryz.f87.results.toList R) (argE 0 [Sl.v vals_0]) w
theorem B3_eq (pr : Prims) (zero_3 : Int) (t6 : Sl) (t7 : Int) (t8 : Int) (w : World) (k : Env → World → Prop) (Q : Exit → Env → World → Prop) : B3 pr zero_3 t6 t7 t8 w k Q = (
  bif decide (t8 < t7) then (
  pr.idxK 1 t6 t8 fun (a2 : Addr) =>
  pr.load1 (.int .i64) a2 w fun (ξ3 : Int) =>
  bif ξ3 != zero_3 then (
  Q .ret [(2, vI ξ3)] w)
  else (
  k (emb3 zero_3 t6 t7 (w64 (t8 + 1))) w))
  else (
  Q (.exit 0) (x0 zero_3) w)) := by kernel_rfl
theorem B3_s (zero_3 : Int) (t6 : Sl) (t7 : Int) (t8 : Int) (w : World) (k : Env → World → Prop) (Q : Exit → Env → World → Prop) : B3 std zero_3 t6 t7 t8 w k Q = (
  bif decide (t8 < t7) then (
  idxK 1 t6 t8 fun (a2 : Addr) =>
  load1 (.int .i64) a2 w fun (ξ3 : Int) =>
  bif ξ3 != zero_3 then (
  Q .ret [(2, vI ξ3)] w)
  else (
  k (emb3 zero_3 t6 t7 (w64 (t8 + 1))) w))
  else (
  Q (.exit 0) (x0 zero_3) w)) := B3_eq std zero_3 t6 t7 t8 w k Q
theorem L3_rule (zero_3 : Int) (t6 : Sl) (t7 : Int) (t8 : Int) (w : World) (Q : Exit → Env → World → Prop) (I : Int → World → Prop) (μ : Int → World → Nat) (h0 : I t8 w)
    (h : ∀ (t8 : Int) (w' : World), I t8 w' → B3 std zero_3 t6 t7 t8 w' (fun e2 w2 => ∃ t8_n, e2 = emb3 zero_3 t6 t7 t8_n ∧ I t8_n w2 ∧ μ t8_n w2 < μ t8 w') Q) :
    L3 std zero_3 t6 t7 t8 w Q := by
  unfold L3
  refine LoopE.intro (σ := Int) (step := S3 std Q) (fun s => emb3 zero_3 t6 t7 s) (fun s w => I s w) (fun s w => μ s w) t8 rfl h0 ?_
  intro s w' hI
  have h1 := h s w' hI
  unfold B3 at h1
  exact h1
theorem A3_0_eq (pr : Prims) (zero_3 : Int) (w : World) (R : Ending → World → Prop) : (q1 pr R) (.exit 0) (x0 zero_3) w = (
  R (.returned (vI zero_3)) w) := by kernel_rfl
theorem A3_0_s (zero_3 : Int) (w : World) (R : Ending → World → Prop) : (q1 std R) (.exit 0) (x0 zero_3) w = (
  R (.returned (vI zero_3)) w) := A3_0_eq std zero_3 w R
theorem R3_eq (pr : Prims) (v2 : Value) (w : World) (R : Ending → World → Prop) : (q1 pr R) .ret [(2, v2)] w = (
  R (.returned (v2)) w) := by kernel_rfl
theorem R3_s (v2 : Value) (w : World) (R : Ending → World → Prop) : (q1 std R) .ret [(2, v2)] w = (
  R (.returned (v2)) w) := R3_eq std v2 w R
theorem E_eq (pr : Prims) (vals_0 : Sl) (w : World) (R : Ending → World → Prop) : E pr vals_0 w R = (
  L3 pr 0 vals_0 (vals_0.n : Int) 0 w (q1 pr R)) := by kernel_rfl
theorem E_s (vals_0 : Sl) (w : World) (R : Ending → World → Prop) : E std vals_0 w R = (
  L3 std 0 vals_0 (vals_0.n : Int) 0 w (q1 std R)) := E_eq std vals_0 w R
theorem drawsOk : drawsOk PP cfg okD (codeOf Tryz.f87) = true := by kernel_rfl
theorem calls (vals_0 : Sl) {w : World} {R : Ending → World → Prop} (h : E std vals_0 w R) : Calls PP F.cmp_Or_int_ #[Sl.v vals_0] w R :=
  calls_of noCount mixed drawOk Tryz.func87 rfl (c := cfg) (args := [Sl.v vals_0]) rfl (Nat.le_of_ble_eq_true (by kernel_rfl)) drawsOk h
end cmp_Or_int_

namespace cmp_Compare_int_
@[reducible] def cfg : Cfg := ⟨20, [], [], [], [4], [], [13, 12, 21, 89, 36, 108, 74, 75, 104, 78, 125], [73, 117, 103, 46, 4, 30, 40]⟩
def E (pr : Prims) (x_0 : Int) (y_1 : Int) (w : World) (R : Ending → World → Prop) : Prop :=
  wpC pr PP cfg (DD pr) (codeOf Tryz.f73) (retQ Tryz.f73.results.toList R) (argE 0 [vI x_0, vI y_1]) w
theorem E_eq (pr : Prims) (x_0 : Int) (y_1 : Int) (w : World) (R : Ending → World → Prop) : E pr x_0 y_1 w R = (
  pr.pcall1 .bool PP F.cmp_isNaN_int_ #[vI x_0] fun (ρ0 : Bool) =>
  pr.pcall1 .bool PP F.cmp_isNaN_int_ #[vI y_1] fun (ρ1 : Bool) =>
  bif ρ0 then (
  bif ρ1 then (
  R (.returned (vI 0)) w)
  else (
  R (.returned (vI (-1))) w))
  else (
  bif ρ1 then (
  R (.returned (vI 1)) w)
  else (
  bif decide (x_0 < y_1) then (
  R (.returned (vI (-1))) w)
  else (
  bif decide (x_0 > y_1) then (
  R (.returned (vI 1)) w)
  else (
  R (.returned (vI 0)) w))))) := by kernel_rfl
theorem E_s (x_0 : Int) (y_1 : Int) (w : World) (R : Ending → World → Prop) : E std x_0 y_1 w R = (
  pcall1 .bool PP F.cmp_isNaN_int_ #[vI x_0] fun (ρ0 : Bool) =>
  pcall1 .bool PP F.cmp_isNaN_int_ #[vI y_1] fun (ρ1 : Bool) =>
  bif ρ0 then (
  bif ρ1 then (
  R (.returned (vI 0)) w)
  else (
  R (.returned (vI (-1))) w))
  else (
  bif ρ1 then (
  R (.returned (vI 1)) w)
  else (
  bif decide (x_0 < y_1) then (
  R (.returned (vI (-1))) w)
  else (
  bif decide (x_0 > y_1) then (
  R (.returned (vI 1)) w)
  else (
  R (.returned (vI 0)) w))))) := E_eq std x_0 y_1 w R
theorem drawsOk : drawsOk PP cfg okD (codeOf Tryz.f73) = true := by kernel_rfl
theorem calls (x_0 : Int) (y_1 : Int) {w : World} {R : Ending → World → Prop} (h : E std x_0 y_1 w R) : Calls PP F.cmp_Compare_int_ #[vI x_0, vI y_1] w R :=
  calls_of noCount mixed drawOk Tryz.func73 rfl (c := cfg) (args := [vI x_0, vI y_1]) rfl (Nat.le_of_ble_eq_true (by kernel_rfl)) drawsOk h
end cmp_Compare_int_

namespace slices_Compare___int_int_
@[reducible] def cfg : Cfg := ⟨36, [(2, [0, 1, 9, 10, 11])], [(1, [0, 1, 9, 10, 11]), (0, [0, 1])], [], [4], [], [13, 12, 21, 89, 36, 108, 74, 75, 104, 78, 125], [73, 117, 103, 46, 4, 30, 40]⟩
def q0 (pr : Prims) (R : Ending → World → Prop) : Exit → Env → World → Prop := fun ex e w => normQ ex (fun e w => contE pr cfg (sub (codeOf Tryz.f38) [1, 1]) (fun e w => wpC pr PP cfg (DD pr) (sub (codeOf Tryz.f38) [1, 1]) (retQ Tryz.f38.results.toList R) e w) e w) (retQ Tryz.f38.results.toList R) e w
def q1 (pr : Prims) (R : Ending → World → Prop) : Exit → Env → World → Prop := fun ex e w => blockQ ex 0 (q0 pr R) e w
def emb2 (s1_0 : Sl) (s2_1 : Sl) (t9 : Sl) (t10 : Int) (t11 : Int) : Env := [(0, Sl.v s1_0), (1, Sl.v s2_1), (9, Sl.v t9), (10, vI t10), (11, vI t11)]
def x0 (s1_0 : Sl) (s2_1 : Sl) : Env := [(0, Sl.v s1_0), (1, Sl.v s2_1)]
def S2 (pr : Prims) (Q : Exit → Env → World → Prop) : (Env → World → Prop) → Env → World → Prop := fun k e w => wpC pr PP cfg (DD pr) (sub (codeOf Tryz.f38) [1, 0, 1, 0, 0]) (fun ex e w => normQ ex (fun e' w' => k (Env.restr e' (lookN cfg.loops (keyOf (sub (codeOf Tryz.f38) [1, 0, 1, 0, 0])))) w') Q e w) e w
def B2 (pr : Prims) (s1_0 : Sl) (s2_1 : Sl) (t9 : Sl) (t10 : Int) (t11 : Int) (w : World) (k : Env → World → Prop) (Q : Exit → Env → World → Prop) : Prop :=
  S2 pr Q k (emb2 s1_0 s2_1 t9 t10 t11) w
def L2 (pr : Prims) (s1_0 : Sl) (s2_1 : Sl) (t9 : Sl) (t10 : Int) (t11 : Int) (w : World) (Q : Exit → Env → World → Prop) : Prop :=
  pr.loop (S2 pr Q) (emb2 s1_0 s2_1 t9 t10 t11) w
def E (pr : Prims) (s1_0 : Sl) (s2_1 : Sl) (w : World) (R : Ending → World → Prop) : Prop :=
  wpC pr PP cfg (DD pr) (codeOf Tryz.f38) (retQ Tryz.f38.results.toList R) (argE 0 [Sl.v s1_0, Sl.v s2_1]) w
theorem B2_eq (pr : Prims) (s1_0 : Sl) (s2_1 : Sl) (t9 : Sl) (t10 : Int) (t11 : Int) (w : World) (k : Env → World → Prop) (Q : Exit → Env → World → Prop) : B2 pr s1_0 s2_1 t9 t10 t11 w k Q = (
  bif decide (t11 < t10) then (
  pr.idxK 1 t9 t11 fun (a2 : Addr) =>
  pr.load1 (.int .i64) a2 w fun (ξ3 : Int) =>
  bif decide (t11 ≥ (s2_1.n : Int)) then (
  Q .ret [(4, vI 1)] w)
  else (
  pr.idxK 1 s2_1 t11 fun (a4 : Addr) =>
  pr.load1 (.int .i64) a4 w fun (ξ5 : Int) =>
  pr.pcall1 (.int .i64) PP F.cmp_Compare_int_ #[vI ξ3, vI ξ5] fun (ρ6 : Int) =>
  bif ρ6 != 0 then (
  Q .ret [(4, vI ρ6)] w)
  else (
  k (emb2 s1_0 s2_1 t9 t10 (w64 (t11 + 1))) w)))
  else (
  Q (.exit 0) (x0 s1_0 s2_1) w)) := by kernel_rfl
theorem B2_s (s1_0 : Sl) (s2_1 : Sl) (t9 : Sl) (t10 : Int) (t11 : Int) (w : World) (k : Env → World → Prop) (Q : Exit → Env → World → Prop) : B2 std s1_0 s2_1 t9 t10 t11 w k Q = (
  bif decide (t11 < t10) then (
  idxK 1 t9 t11 fun (a2 : Addr) =>
  load1 (.int .i64) a2 w fun (ξ3 : Int) =>
  bif decide (t11 ≥ (s2_1.n : Int)) then (
  Q .ret [(4, vI 1)] w)
  else (
  idxK 1 s2_1 t11 fun (a4 : Addr) =>
  load1 (.int .i64) a4 w fun (ξ5 : Int) =>
  pcall1 (.int .i64) PP F.cmp_Compare_int_ #[vI ξ3, vI ξ5] fun (ρ6 : Int) =>
  bif ρ6 != 0 then (
  Q .ret [(4, vI ρ6)] w)
  else (
  k (emb2 s1_0 s2_1 t9 t10 (w64 (t11 + 1))) w)))
  else (
  Q (.exit 0) (x0 s1_0 s2_1) w)) := B2_eq std s1_0 s2_1 t9 t10 t11 w k Q
theorem L2_rule (s1_0 : Sl) (s2_1 : Sl) (t9 : Sl) (t10 : Int) (t11 : Int) (w : World) (Q : Exit → Env → World → Prop) (I : Int → World → Prop) (μ : Int → World → Nat) (h0 : I t11 w)
    (h : ∀ (t11 : Int) (w' : World), I t11 w' → B2 std s1_0 s2_1 t9 t10 t11 w' (fun e2 w2 => ∃ t11_n, e2 = emb2 s1_0 s2_1 t9 t10 t11_n ∧ I t11_n w2 ∧ μ t11_n w2 < μ t11 w') Q) :
    L2 std s1_0 s2_1 t9 t10 t11 w Q := by
  unfold L2
  refine LoopE.intro (σ := Int) (step := S2 std Q) (fun s => emb2 s1_0 s2_1 t9 t10 s) (fun s w => I s w) (fun s w => μ s w) t11 rfl h0 ?_
  intro s w' hI
  have h1 := h s w' hI
  unfold B2 at h1
  exact h1
theorem A2_0_eq (pr : Prims) (s1_0 : Sl) (s2_1 : Sl) (w : World) (R : Ending → World → Prop) : (q1 pr R) (.exit 0) (x0 s1_0 s2_1) w = (
  bif decide ((s1_0.n : Int) < (s2_1.n : Int)) then (
  R (.returned (vI (-1))) w)
  else (
  R (.returned (vI 0)) w)) := by kernel_rfl
theorem A2_0_s (s1_0 : Sl) (s2_1 : Sl) (w : World) (R : Ending → World → Prop) : (q1 std R) (.exit 0) (x0 s1_0 s2_1) w = (
  bif decide ((s1_0.n : Int) < (s2_1.n : Int)) then (
  R (.returned (vI (-1))) w)
  else (
  R (.returned (vI 0)) w)) := A2_0_eq std s1_0 s2_1 w R
theorem R2_eq (pr : Prims) (v4 : Value) (w : World) (R : Ending → World → Prop) : (q1 pr R) .ret [(4, v4)] w = (
  R (.returned (v4)) w) := by kernel_rfl
theorem R2_s (v4 : Value) (w : World) (R : Ending → World → Prop) : (q1 std R) .ret [(4, v4)] w = (
  R (.returned (v4)) w) := R2_eq std v4 w R
theorem E_eq (pr : Prims) (s1_0 : Sl) (s2_1 : Sl) (w : World) (R : Ending → World → Prop) : E pr s1_0 s2_1 w R = (
  L2 pr s1_0 s2_1 s1_0 (s1_0.n : Int) 0 w (q1 pr R)) := by kernel_rfl
theorem E_s (s1_0 : Sl) (s2_1 : Sl) (w : World) (R : Ending → World → Prop) : E std s1_0 s2_1 w R = (
  L2 std s1_0 s2_1 s1_0 (s1_0.n : Int) 0 w (q1 std R)) := E_eq std s1_0 s2_1 w R
theorem drawsOk : drawsOk PP cfg okD (codeOf Tryz.f38) = true := by kernel_rfl
theorem calls (s1_0 : Sl) (s2_1 : Sl) {w : World} {R : Ending → World → Prop} (h : E std s1_0 s2_1 w R) : Calls PP F.slices_Compare___int_int_ #[Sl.v s1_0, Sl.v s2_1] w R :=
  calls_of noCount mixed drawOk Tryz.func38 rfl (c := cfg) (args := [Sl.v s1_0, Sl.v s2_1]) rfl (Nat.le_of_ble_eq_true (by kernel_rfl)) drawsOk h
end slices_Compare___int_int_

namespace spec_l12Avoids
@[reducible] def cfg : Cfg := ⟨18, [(2, [0, 1, 5])], [(1, [0, 1, 5]), (0, [])], [], [4], [], [13, 12, 21, 89, 36, 108, 74, 75, 104, 78, 125], [73, 117, 103, 46, 4, 30, 40]⟩
def q0 (pr : Prims) (R : Ending → World → Prop) : Exit → Env → World → Prop := fun ex e w => normQ ex (fun e w => contE pr cfg (sub (codeOf Tryz.f57) [1, 1]) (fun e w => wpC pr PP cfg (DD pr) (sub (codeOf Tryz.f57) [1, 1]) (retQ Tryz.f57.results.toList R) e w) e w) (retQ Tryz.f57.results.toList R) e w
def q1 (pr : Prims) (R : Ending → World → Prop) : Exit → Env → World → Prop := fun ex e w => blockQ ex 0 (q0 pr R) e w
def emb2 (list_0 : Sl) (p_1 : Sl) (k_5 : Int) : Env := [(0, Sl.v list_0), (1, Sl.v p_1), (5, vI k_5)]
def x0 : Env := []
def S2 (pr : Prims) (Q : Exit → Env → World → Prop) : (Env → World → Prop) → Env → World → Prop := fun k e w => wpC pr PP cfg (DD pr) (sub (codeOf Tryz.f57) [1, 0, 1, 0, 0]) (fun ex e w => normQ ex (fun e' w' => k (Env.restr e' (lookN cfg.loops (keyOf (sub (codeOf Tryz.f57) [1, 0, 1, 0, 0])))) w') Q e w) e w
def B2 (pr : Prims) (list_0 : Sl) (p_1 : Sl) (k_5 : Int) (w : World) (k : Env → World → Prop) (Q : Exit → Env → World → Prop) : Prop :=
  S2 pr Q k (emb2 list_0 p_1 k_5) w
def L2 (pr : Prims) (list_0 : Sl) (p_1 : Sl) (k_5 : Int) (w : World) (Q : Exit → Env → World → Prop) : Prop :=
  pr.loop (S2 pr Q) (emb2 list_0 p_1 k_5) w
def E (pr : Prims) (list_0 : Sl) (p_1 : Sl) (w : World) (R : Ending → World → Prop) : Prop :=
  wpC pr PP cfg (DD pr) (codeOf Tryz.f57) (retQ Tryz.f57.results.toList R) (argE 0 [Sl.v list_0, Sl.v p_1]) w
theorem B2_eq (pr : Prims) (list_0 : Sl) (p_1 : Sl) (k_5 : Int) (w : World) (k : Env → World → Prop) (Q : Exit → Env → World → Prop) : B2 pr list_0 p_1 k_5 w k Q = (
  bif decide (k_5 < (list_0.n : Int)) then (
  pr.idxK 1 list_0 k_5 fun (a2 : Addr) =>
  pr.load1 .sl a2 w fun (ξ3 : Sl) =>
  pr.call1 .bool PP F.spec_l7Has #[Sl.v p_1, Sl.v ξ3] w fun (ρ4 : Bool) ω5 =>
  bif ρ4 then (
  Q .ret [(4, .bool false)] ω5)
  else (
  k (emb2 list_0 p_1 (w64 (k_5 + 1))) ω5))
  else (
  Q (.exit 0) (x0) w)) := by kernel_rfl
theorem B2_s (list_0 : Sl) (p_1 : Sl) (k_5 : Int) (w : World) (k : Env → World → Prop) (Q : Exit → Env → World → Prop) : B2 std list_0 p_1 k_5 w k Q = (
  bif decide (k_5 < (list_0.n : Int)) then (
  idxK 1 list_0 k_5 fun (a2 : Addr) =>
  load1 .sl a2 w fun (ξ3 : Sl) =>
  call1 .bool PP F.spec_l7Has #[Sl.v p_1, Sl.v ξ3] w fun (ρ4 : Bool) ω5 =>
  bif ρ4 then (
  Q .ret [(4, .bool false)] ω5)
  else (
  k (emb2 list_0 p_1 (w64 (k_5 + 1))) ω5))
  else (
  Q (.exit 0) (x0) w)) := B2_eq std list_0 p_1 k_5 w k Q
theorem L2_rule (list_0 : Sl) (p_1 : Sl) (k_5 : Int) (w : World) (Q : Exit → Env → World → Prop) (I : Int → World → Prop) (μ : Int → World → Nat) (h0 : I k_5 w)
    (h : ∀ (k_5 : Int) (w' : World), I k_5 w' → B2 std list_0 p_1 k_5 w' (fun e2 w2 => ∃ k_5_n, e2 = emb2 list_0 p_1 k_5_n ∧ I k_5_n w2 ∧ μ k_5_n w2 < μ k_5 w') Q) :
    L2 std list_0 p_1 k_5 w Q := by
  unfold L2
  refine LoopE.intro (σ := Int) (step := S2 std Q) (fun s => emb2 list_0 p_1 s) (fun s w => I s w) (fun s w => μ s w) k_5 rfl h0 ?_
  intro s w' hI
  have h1 := h s w' hI
  unfold B2 at h1
  exact h1
theorem A2_0_eq (pr : Prims) (w : World) (R : Ending → World → Prop) : (q1 pr R) (.exit 0) (x0) w = (
  R (.returned (.bool true)) w) := by kernel_rfl
theorem A2_0_s (w : World) (R : Ending → World → Prop) : (q1 std R) (.exit 0) (x0) w = (
  R (.returned (.bool true)) w) := A2_0_eq std w R
theorem R2_eq (pr : Prims) (v4 : Value) (w : World) (R : Ending → World → Prop) : (q1 pr R) .ret [(4, v4)] w = (
  R (.returned (v4)) w) := by kernel_rfl
theorem R2_s (v4 : Value) (w : World) (R : Ending → World → Prop) : (q1 std R) .ret [(4, v4)] w = (
  R (.returned (v4)) w) := R2_eq std v4 w R
theorem E_eq (pr : Prims) (list_0 : Sl) (p_1 : Sl) (w : World) (R : Ending → World → Prop) : E pr list_0 p_1 w R = (
  L2 pr list_0 p_1 0 w (q1 pr R)) := by kernel_rfl
theorem E_s (list_0 : Sl) (p_1 : Sl) (w : World) (R : Ending → World → Prop) : E std list_0 p_1 w R = (
  L2 std list_0 p_1 0 w (q1 std R)) := E_eq std list_0 p_1 w R
theorem drawsOk : drawsOk PP cfg okD (codeOf Tryz.f57) = true := by kernel_rfl
theorem calls (list_0 : Sl) (p_1 : Sl) {w : World} {R : Ending → World → Prop} (h : E std list_0 p_1 w R) : Calls PP F.spec_l12Avoids #[Sl.v list_0, Sl.v p_1] w R :=
  calls_of noCount mixed drawOk Tryz.func57 rfl (c := cfg) (args := [Sl.v list_0, Sl.v p_1]) rfl (Nat.le_of_ble_eq_true (by kernel_rfl)) drawsOk h
end spec_l12Avoids

namespace impl_avoids
@[reducible] def cfg : Cfg := ⟨9, [], [], [], [4], [], [13, 12, 21, 89, 36, 108, 74, 75, 104, 78, 125], [73, 117, 103, 46, 4, 30, 40]⟩
def E (pr : Prims) (list_0 : Sl) (p_1 : Sl) (w : World) (R : Ending → World → Prop) : Prop :=
  wpC pr PP cfg (DD pr) (codeOf Tryz.f68) (retQ Tryz.f68.results.toList R) (argE 0 [Sl.v list_0, Sl.v p_1]) w
theorem E_eq (pr : Prims) (list_0 : Sl) (p_1 : Sl) (w : World) (R : Ending → World → Prop) : E pr list_0 p_1 w R = (
  pr.newK T_Sint #[Sl.v p_1] w fun (a0 : Addr) ω1 =>
  pr.call1 .bool PP F.slices_ContainsFunc_____int___int_ #[Sl.v list_0, (.func (.func F.impl_avoidsL1) #[] #[.pointer (some a0)])] ω1 fun (ρ2 : Bool) ω3 =>
  R (.returned (.bool (!ρ2))) ω3) := by kernel_rfl
theorem E_s (list_0 : Sl) (p_1 : Sl) (w : World) (R : Ending → World → Prop) : E std list_0 p_1 w R = (
  newK T_Sint #[Sl.v p_1] w fun (a0 : Addr) ω1 =>
  call1 .bool PP F.slices_ContainsFunc_____int___int_ #[Sl.v list_0, (.func (.func F.impl_avoidsL1) #[] #[.pointer (some a0)])] ω1 fun (ρ2 : Bool) ω3 =>
  R (.returned (.bool (!ρ2))) ω3) := E_eq std list_0 p_1 w R
theorem drawsOk : drawsOk PP cfg okD (codeOf Tryz.f68) = true := by kernel_rfl
theorem calls (list_0 : Sl) (p_1 : Sl) {w : World} {R : Ending → World → Prop} (h : E std list_0 p_1 w R) : Calls PP F.impl_avoids #[Sl.v list_0, Sl.v p_1] w R :=
  calls_of noCount mixed drawOk Tryz.func68 rfl (c := cfg) (args := [Sl.v list_0, Sl.v p_1]) rfl (Nat.le_of_ble_eq_true (by kernel_rfl)) drawsOk h
end impl_avoids

namespace impl_avoidsL1
@[reducible] def cfg : Cfg := ⟨7, [], [], [], [3], [], [13, 12, 21, 89, 36, 108, 74, 75, 104, 78, 125], [73, 117, 103, 46, 4, 30, 40]⟩
def E (pr : Prims) (q_0 : Sl) (t1 : Addr) (w : World) (R : Ending → World → Prop) : Prop :=
  wpC pr PP cfg (DD pr) (codeOf Tryz.f90) (retQ Tryz.f90.results.toList R) (argE 0 [Sl.v q_0, .pointer (some t1)]) w
theorem E_eq (pr : Prims) (q_0 : Sl) (t1 : Addr) (w : World) (R : Ending → World → Prop) : E pr q_0 t1 w R = (
  pr.load1 .sl t1 w fun (ξ0 : Sl) =>
  pr.call1 .bool PP F.impl_has #[Sl.v ξ0, Sl.v q_0, Sl.v Sl.nil] w fun (ρ1 : Bool) ω2 =>
  R (.returned (.bool ρ1)) ω2) := by kernel_rfl
theorem E_s (q_0 : Sl) (t1 : Addr) (w : World) (R : Ending → World → Prop) : E std q_0 t1 w R = (
  load1 .sl t1 w fun (ξ0 : Sl) =>
  call1 .bool PP F.impl_has #[Sl.v ξ0, Sl.v q_0, Sl.v Sl.nil] w fun (ρ1 : Bool) ω2 =>
  R (.returned (.bool ρ1)) ω2) := E_eq std q_0 t1 w R
theorem drawsOk : drawsOk PP cfg okD (codeOf Tryz.f90) = true := by kernel_rfl
theorem calls (q_0 : Sl) (t1 : Addr) {w : World} {R : Ending → World → Prop} (h : E std q_0 t1 w R) : Calls PP F.impl_avoidsL1 #[Sl.v q_0, .pointer (some t1)] w R :=
  calls_of noCount mixed drawOk Tryz.func90 rfl (c := cfg) (args := [Sl.v q_0, .pointer (some t1)]) rfl (Nat.le_of_ble_eq_true (by kernel_rfl)) drawsOk h
end impl_avoidsL1

namespace spec_InClass
@[reducible] def cfg : Cfg := ⟨16, [], [], [], [4], [], [13, 12, 21, 89, 36, 108, 74, 75, 104, 78, 125], [73, 117, 103, 46, 4, 30, 40]⟩
def E (pr : Prims) (list_0 : Sl) (p_1 : Sl) (w : World) (R : Ending → World → Prop) : Prop :=
  wpC pr PP cfg (DD pr) (codeOf Tryz.f55) (retQ Tryz.f55.results.toList R) (argE 0 [Sl.v list_0, Sl.v p_1]) w
theorem E_eq (pr : Prims) (list_0 : Sl) (p_1 : Sl) (w : World) (R : Ending → World → Prop) : E pr list_0 p_1 w R = (
  pr.call1 .bool PP F.spec_IsBasis #[Sl.v list_0] w fun (ρ0 : Bool) ω1 =>
  bif ρ0 then (
  pr.call1 .bool PP F.spec_IsPerm #[Sl.v p_1] ω1 fun (ρ2 : Bool) ω3 =>
  bif ρ2 then (
  pr.call1 .bool PP F.spec_l12Avoids #[Sl.v list_0, Sl.v p_1] ω3 fun (ρ4 : Bool) ω5 =>
  R (.returned (.bool ρ4)) ω5)
  else (
  R (.returned (.bool false)) ω3))
  else (
  R (.returned (.bool false)) ω1)) := by kernel_rfl
theorem E_s (list_0 : Sl) (p_1 : Sl) (w : World) (R : Ending → World → Prop) : E std list_0 p_1 w R = (
  call1 .bool PP F.spec_IsBasis #[Sl.v list_0] w fun (ρ0 : Bool) ω1 =>
  bif ρ0 then (
  call1 .bool PP F.spec_IsPerm #[Sl.v p_1] ω1 fun (ρ2 : Bool) ω3 =>
  bif ρ2 then (
  call1 .bool PP F.spec_l12Avoids #[Sl.v list_0, Sl.v p_1] ω3 fun (ρ4 : Bool) ω5 =>
  R (.returned (.bool ρ4)) ω5)
  else (
  R (.returned (.bool false)) ω3))
  else (
  R (.returned (.bool false)) ω1)) := E_eq std list_0 p_1 w R
theorem drawsOk : drawsOk PP cfg okD (codeOf Tryz.f55) = true := by kernel_rfl
theorem calls (list_0 : Sl) (p_1 : Sl) {w : World} {R : Ending → World → Prop} (h : E std list_0 p_1 w R) : Calls PP F.spec_InClass #[Sl.v list_0, Sl.v p_1] w R :=
  calls_of noCount mixed drawOk Tryz.func55 rfl (c := cfg) (args := [Sl.v list_0, Sl.v p_1]) rfl (Nat.le_of_ble_eq_true (by kernel_rfl)) drawsOk h
end spec_InClass

namespace impl_InClass
@[reducible] def cfg : Cfg := ⟨16, [], [], [], [4], [], [13, 12, 21, 89, 36, 108, 74, 75, 104, 78, 125], [73, 117, 103, 46, 4, 30, 40]⟩
def E (pr : Prims) (list_0 : Sl) (p_1 : Sl) (w : World) (R : Ending → World → Prop) : Prop :=
  wpC pr PP cfg (DD pr) (codeOf Tryz.f79) (retQ Tryz.f79.results.toList R) (argE 0 [Sl.v list_0, Sl.v p_1]) w
theorem E_eq (pr : Prims) (list_0 : Sl) (p_1 : Sl) (w : World) (R : Ending → World → Prop) : E pr list_0 p_1 w R = (
  pr.call1 .bool PP F.impl_IsBasis #[Sl.v list_0] w fun (ρ0 : Bool) ω1 =>
  bif ρ0 then (
  pr.call1 .bool PP F.impl_IsPerm #[Sl.v p_1] ω1 fun (ρ2 : Bool) ω3 =>
  bif ρ2 then (
  pr.call1 .bool PP F.impl_avoids #[Sl.v list_0, Sl.v p_1] ω3 fun (ρ4 : Bool) ω5 =>
  R (.returned (.bool ρ4)) ω5)
  else (
  R (.returned (.bool false)) ω3))
  else (
  R (.returned (.bool false)) ω1)) := by kernel_rfl
theorem E_s (list_0 : Sl) (p_1 : Sl) (w : World) (R : Ending → World → Prop) : E std list_0 p_1 w R = (
  call1 .bool PP F.impl_IsBasis #[Sl.v list_0] w fun (ρ0 : Bool) ω1 =>
  bif ρ0 then (
  call1 .bool PP F.impl_IsPerm #[Sl.v p_1] ω1 fun (ρ2 : Bool) ω3 =>
  bif ρ2 then (
  call1 .bool PP F.impl_avoids #[Sl.v list_0, Sl.v p_1] ω3 fun (ρ4 : Bool) ω5 =>
  R (.returned (.bool ρ4)) ω5)
  else (
  R (.returned (.bool false)) ω3))
  else (
  R (.returned (.bool false)) ω1)) := E_eq std list_0 p_1 w R
theorem drawsOk : drawsOk PP cfg okD (codeOf Tryz.f79) = true := by kernel_rfl
theorem calls (list_0 : Sl) (p_1 : Sl) {w : World} {R : Ending → World → Prop} (h : E std list_0 p_1 w R) : Calls PP F.impl_InClass #[Sl.v list_0, Sl.v p_1] w R :=
  calls_of noCount mixed drawOk Tryz.func79 rfl (c := cfg) (args := [Sl.v list_0, Sl.v p_1]) rfl (Nat.le_of_ble_eq_true (by kernel_rfl)) drawsOk h
end impl_InClass

end Go.Proofs.YteplokddaebbeaaGreat

/- What each function does, step by step, written by a program (Gen.lean); each equation is checked by the kernel. -/
namespace Go.Proofs.YteplokddaebbeaaGreat
open Go
set_option linter.unusedVariables false
set_option maxRecDepth 100000
namespace slices_IndexFunc_____int___int_
@[reducible] def cfg : Cfg := ⟨19, [(2, [0, 1, 7, 8])], [(1, [0, 1, 7, 8]), (0, [])], [], [4], [], [13, 12, 21, 89, 36, 108, 74, 75, 104, 78, 125], [73, 117, 103, 46, 4, 30, 40]⟩
def q0 (pr : Prims) (R : Ending → World → Prop) : Exit → Env → World → Prop := fun ex e w => normQ ex (fun e w => contE pr cfg (sub (codeOf Tryz.f52) [1, 1]) (fun e w => wpC pr PP cfg (DD pr) (sub (codeOf Tryz.f52) [1, 1]) (retQ Tryz.f52.results.toList R) e w) e w) (retQ Tryz.f52.results.toList R) e w
def q1 (pr : Prims) (R : Ending → World → Prop) : Exit → Env → World → Prop := fun ex e w => blockQ ex 0 (q0 pr R) e w
def emb2 (s_0 : Sl) (f_1 : Value) (t7 : Int) (t8 : Int) : Env := [(0, Sl.v s_0), (1, f_1), (7, vI t7), (8, vI t8)]
def x0 : Env := []
def S2 (pr : Prims) (Q : Exit → Env → World → Prop) : (Env → World → Prop) → Env → World → Prop := fun k e w => wpC pr PP cfg (DD pr) (sub (codeOf Tryz.f52) [1, 0, 1, 0, 0]) (fun ex e w => normQ ex (fun e' w' => k (Env.restr e' (lookN cfg.loops (keyOf (sub (codeOf Tryz.f52) [1, 0, 1, 0, 0])))) w') Q e w) e w
def B2 (pr : Prims) (s_0 : Sl) (f_1 : Value) (t7 : Int) (t8 : Int) (w : World) (k : Env → World → Prop) (Q : Exit → Env → World → Prop) : Prop :=
  S2 pr Q k (emb2 s_0 f_1 t7 t8) w
def L2 (pr : Prims) (s_0 : Sl) (f_1 : Value) (t7 : Int) (t8 : Int) (w : World) (Q : Exit → Env → World → Prop) : Prop :=
  pr.loop (S2 pr Q) (emb2 s_0 f_1 t7 t8) w
def E (pr : Prims) (s_0 : Sl) (f_1 : Value) (w : World) (R : Ending → World → Prop) : Prop :=
  wpC pr PP cfg (DD pr) (codeOf Tryz.f52) (retQ Tryz.f52.results.toList R) (argE 0 [Sl.v s_0, f_1]) w
theorem B2_eq (pr : Prims) (s_0 : Sl) (f_1 : Value) (t7 : Int) (t8 : Int) (w : World) (k : Env → World → Prop) (Q : Exit → Env → World → Prop) : B2 pr s_0 f_1 t7 t8 w k Q = (
  bif decide (t8 < t7) then (
  pr.idxK 1 s_0 t8 fun (a2 : Addr) =>
  pr.load1 .sl a2 w fun (ξ3 : Sl) =>
  pr.callV1 .bool PP (f_1) [Sl.v ξ3] w fun (ρ4 : Bool) ω5 =>
  bif ρ4 then (
  Q .ret [(4, vI t8)] ω5)
  else (
  k (emb2 s_0 f_1 t7 (w64 (t8 + 1))) ω5))
  else (
  Q (.exit 0) (x0) w)) := by kernel_rfl
theorem B2_s (s_0 : Sl) (f_1 : Value) (t7 : Int) (t8 : Int) (w : World) (k : Env → World → Prop) (Q : Exit → Env → World → Prop) : B2 std s_0 f_1 t7 t8 w k Q = (
  bif decide (t8 < t7) then (
  idxK 1 s_0 t8 fun (a2 : Addr) =>
  load1 .sl a2 w fun (ξ3 : Sl) =>
  callV1 .bool PP (f_1) [Sl.v ξ3] w fun (ρ4 : Bool) ω5 =>
  bif ρ4 then (
  Q .ret [(4, vI t8)] ω5)
  else (
  k (emb2 s_0 f_1 t7 (w64 (t8 + 1))) ω5))
  else (
  Q (.exit 0) (x0) w)) := B2_eq std s_0 f_1 t7 t8 w k Q
theorem L2_rule (s_0 : Sl) (f_1 : Value) (t7 : Int) (t8 : Int) (w : World) (Q : Exit → Env → World → Prop) (I : Int → World → Prop) (μ : Int → World → Nat) (h0 : I t8 w)
    (h : ∀ (t8 : Int) (w' : World), I t8 w' → B2 std s_0 f_1 t7 t8 w' (fun e2 w2 => ∃ t8_n, e2 = emb2 s_0 f_1 t7 t8_n ∧ I t8_n w2 ∧ μ t8_n w2 < μ t8 w') Q) :
    L2 std s_0 f_1 t7 t8 w Q := by
  unfold L2
  refine LoopE.intro (σ := Int) (step := S2 std Q) (fun s => emb2 s_0 f_1 t7 s) (fun s w => I s w) (fun s w => μ s w) t8 rfl h0 ?_
  intro s w' hI
  have h1 := h s w' hI
  unfold B2 at h1
  exact h1
theorem A2_0_eq (pr : Prims) (w : World) (R : Ending → World → Prop) : (q1 pr R) (.exit 0) (x0) w = (
  R (.returned (vI (-1))) w) := by kernel_rfl
theorem A2_0_s (w : World) (R : Ending → World → Prop) : (q1 std R) (.exit 0) (x0) w = (
  R (.returned (vI (-1))) w) := A2_0_eq std w R
theorem R2_eq (pr : Prims) (v4 : Value) (w : World) (R : Ending → World → Prop) : (q1 pr R) .ret [(4, v4)] w = (
  R (.returned (v4)) w) := by kernel_rfl
theorem R2_s (v4 : Value) (w : World) (R : Ending → World → Prop) : (q1 std R) .ret [(4, v4)] w = (
  R (.returned (v4)) w) := R2_eq std v4 w R
theorem E_eq (pr : Prims) (s_0 : Sl) (f_1 : Value) (w : World) (R : Ending → World → Prop) : E pr s_0 f_1 w R = (
  L2 pr s_0 f_1 (s_0.n : Int) 0 w (q1 pr R)) := by kernel_rfl
theorem E_s (s_0 : Sl) (f_1 : Value) (w : World) (R : Ending → World → Prop) : E std s_0 f_1 w R = (
  L2 std s_0 f_1 (s_0.n : Int) 0 w (q1 std R)) := E_eq std s_0 f_1 w R
theorem drawsOk : drawsOk PP cfg okD (codeOf Tryz.f52) = true := by kernel_rfl
theorem calls (s_0 : Sl) (f_1 : Value) {w : World} {R : Ending → World → Prop} (h : E std s_0 f_1 w R) : Calls PP F.slices_IndexFunc_____int___int_ #[Sl.v s_0, f_1] w R :=
  calls_of noCount mixed drawOk Tryz.func52 rfl (c := cfg) (args := [Sl.v s_0, f_1]) rfl (Nat.le_of_ble_eq_true (by kernel_rfl)) drawsOk h
end slices_IndexFunc_____int___int_

namespace slices_ContainsFunc_____int___int_
@[reducible] def cfg : Cfg := ⟨9, [], [], [], [4], [], [13, 12, 21, 89, 36, 108, 74, 75, 104, 78, 125], [73, 117, 103, 46, 4, 30, 40]⟩
def E (pr : Prims) (s_0 : Sl) (f_1 : Value) (w : World) (R : Ending → World → Prop) : Prop :=
  wpC pr PP cfg (DD pr) (codeOf Tryz.f50) (retQ Tryz.f50.results.toList R) (argE 0 [Sl.v s_0, f_1]) w
theorem E_eq (pr : Prims) (s_0 : Sl) (f_1 : Value) (w : World) (R : Ending → World → Prop) : E pr s_0 f_1 w R = (
  pr.call1 (.int .i64) PP F.slices_IndexFunc_____int___int_ #[Sl.v s_0, f_1] w fun (ρ0 : Int) ω1 =>
  R (.returned (.bool (decide (ρ0 ≥ 0)))) ω1) := by kernel_rfl
theorem E_s (s_0 : Sl) (f_1 : Value) (w : World) (R : Ending → World → Prop) : E std s_0 f_1 w R = (
  call1 (.int .i64) PP F.slices_IndexFunc_____int___int_ #[Sl.v s_0, f_1] w fun (ρ0 : Int) ω1 =>
  R (.returned (.bool (decide (ρ0 ≥ 0)))) ω1) := E_eq std s_0 f_1 w R
theorem drawsOk : drawsOk PP cfg okD (codeOf Tryz.f50) = true := by kernel_rfl
theorem calls (s_0 : Sl) (f_1 : Value) {w : World} {R : Ending → World → Prop} (h : E std s_0 f_1 w R) : Calls PP F.slices_ContainsFunc_____int___int_ #[Sl.v s_0, f_1] w R :=
  calls_of noCount mixed drawOk Tryz.func50 rfl (c := cfg) (args := [Sl.v s_0, f_1]) rfl (Nat.le_of_ble_eq_true (by kernel_rfl)) drawsOk h
end slices_ContainsFunc_____int___int_

end Go.Proofs.YteplokddaebbeaaGreat

/- Function values with one bool result; new variables. -/
namespace Go.Proofs.YteplokddaebbeaaGreat
open Go Go.RowKit
set_option maxRecDepth 100000

/-- A function value that answers b, and adds to memory at most. -/
def FnB (w0 : World) (f : Value) (args : List Value) (b : Bool) : Prop := ∀ w, Below w0.heap.size w0 w → ∃ g first cap, f = .func (.func g) first cap ∧ bodied PP g = true ∧ Calls PP g ((first ++ args.toArray) ++ cap) w fun e w' => e = .returned (.bool b) ∧ Below w.heap.size w w'
theorem FnB.callV1 {w0 f args b} (h : FnB w0 f args b) {w : World} (hb : Below w0.heap.size w0 w) {K : Bool → World → Prop} (hk : ∀ w', Below w.heap.size w w' → K b w') : callV1 .bool PP f args w K := by
  obtain ⟨g, first, cap, hf, hbd, hc⟩ := h w hb
  exact ⟨g, first, cap, hf, hbd, hc.mono fun e w' ⟨he, hb⟩ => ⟨b, he, hk w' hb⟩⟩
theorem FnB.grow {w0 f args b} (h : FnB w0 f args b) {w : World} (hb : Below w0.heap.size w0 w) : FnB w f args b := fun w' hb' => h w' (hb.trans (hb'.mono hb.size))
theorem cell_grow {w w' : World} {a : Addr} {v : Value} (h : w.cell? a = some v) (hb : Below w.heap.size w w') : w'.cell? a = some v := by
  rw [hb.cell (World.block_lt_of_cell? w _ h)]; exact h
theorem new_one {t : TypeId} {v : Value} {w : World} {K : Addr → World → Prop} (h : ∀ ad w', w'.cell? ad = some v → Below w.heap.size w w' → K ad w') : newK t #[v] w K := by
  refine h ⟨w.heap.size, 0, none⟩ (w.alloc (.cells #[v] t)) ?_ (below_of_grow (World.grownBy_alloc w _ none))
  have := cell_of_row (w.alloc (.cells #[v] t)) w.heap.size 0 #[v] t (0, 0) (heap_alloc_new w _)
  rw [this]; rfl
/-- A new variable, set at once. -/
theorem new_set {t : TypeId} {u v : Value} {w : World} {K : Addr → World → Prop} (h : ∀ ad w', w'.cell? ad = some v → Below w.heap.size w w' → K ad w') : newK t #[u] w fun ad w1 => storeC ad v w1 (K ad) := by
  have hnew := heap_alloc_new w (.cells #[u] t)
  have hc : (w.alloc (.cells #[u] t)).cell? ⟨w.heap.size, 0, none⟩ = some u := by
    have := cell_of_row (w.alloc (.cells #[u] t)) w.heap.size 0 #[u] t (0, 0) hnew
    rw [this]; rfl
  refine ⟨⟨u, hc⟩, by simp only [World.frozen?, hnew]; rfl, h _ _ ?_ ?_⟩
  · have h1 : ((w.alloc (.cells #[u] t)).setCell ⟨w.heap.size, 0, none⟩ v).heap[w.heap.size]? = some (.cells (#[u].setIfInBounds 0 v) t (0, 0)) := by
      simp only [World.setCell, Array.getElem?_modify, hnew]; rfl
    have := cell_of_row _ w.heap.size 0 _ t (0, 0) h1
    rw [this]; rfl
  · have hb := below_of_grow (World.grownBy_alloc w (.cells #[u] t) none)
    refine ⟨hb.os, hb.tape, hb.output, by simp [World.setCell], fun k hk => ?_⟩
    rw [Below.heap_setCell _ _ _ _ (by simp; omega)]
    exact hb.block k hk
def idxF {α : Type} (φ : α → Bool) (l : List α) : Int := if l.findIdx φ < l.length then (l.findIdx φ : Int) else -1
theorem idxF_nonneg {α : Type} {φ : α → Bool} {l : List α} : decide (idxF φ l ≥ 0) = l.any φ := by
  unfold idxF
  split
  · rename_i h
    rw [List.findIdx_lt_length] at h
    obtain ⟨x, h1, h2⟩ := h
    rw [List.any_eq_true.2 ⟨x, h1, h2⟩, decide_eq_true (by omega)]
  · rename_i h
    rw [List.findIdx_lt_length] at h
    rw [decide_eq_false (by omega)]
    symm
    rw [List.any_eq_false]
    intro x hx hp
    exact h ⟨x, hx, hp⟩
theorem idxF_at {α : Type} {φ : α → Bool} {l : List α} {i : Nat} (hi : i < l.length) (h1 : φ l[i] = true) (h2 : ∀ j (hj : j < i), φ (l[j]'(by omega)) = false) : idxF φ l = i := by
  have : l.findIdx φ = i := by rw [List.findIdx_eq hi]; exact ⟨h1, h2⟩
  rw [idxF, this, if_pos hi]
theorem idxF_none {α : Type} {φ : α → Bool} {l : List α} (h : ∀ j (hj : j < l.length), φ l[j] = false) : idxF φ l = -1 := by
  rw [idxF, if_neg]
  intro h5
  rw [List.findIdx_lt_length] at h5
  obtain ⟨x, h6, h7⟩ := h5
  obtain ⟨i, hi, rfl⟩ := List.getElem_of_mem h6
  rw [h i hi] at h7; cases h7
end Go.Proofs.YteplokddaebbeaaGreat

/- The library's IndexFunc over rows of rows. -/
namespace Go.Proofs.YteplokddaebbeaaGreat
open Go Go.RowKit
set_option maxRecDepth 100000

theorem c_IndexFuncS {w : World} {a : Sl} {LL : List (List Int)} (ha : RowSS w a LL) (hL : LL.length < 2^38) {f : Value} {φ : List Int → Bool} (hf : ∀ L ∈ LL, ∀ r, RowI w r L → FnB w f [r.v] (φ L)) :
    Calls PP F.slices_IndexFunc_____int___int_ #[a.v, f] w fun e w' => e = .returned (vI (idxF φ LL)) ∧ Below w.heap.size w w' := by
  have han := ha.n
  refine slices_IndexFunc_____int___int_.calls a f ?_
  rw [slices_IndexFunc_____int___int_.E_s, han]
  refine slices_IndexFunc_____int___int_.L2_rule _ _ _ _ _ _ (I := fun k w' => 0 ≤ k ∧ k ≤ LL.length ∧ Below w.heap.size w w' ∧ ∀ j (hj : j < LL.length), j < k.toNat → φ LL[j] = false) (μ := fun k _ => (LL.length - k).toNat)
    ⟨by omega, by omega, Below.refl _ _, fun j _ hj => by simp at hj⟩ ?_
  rintro k w' ⟨h0, hk, hb, hall⟩
  rw [slices_IndexFunc_____int___int_.B2_s]
  refine bif_dec (fun h3 => ?_) (fun h3 => ?_)
  · have hlt : k.toNat < LL.length := by omega
    refine RowSS.getB ha hb h0 (by omega) fun r hr => ?_
    rw [getD_SS hlt] at hr
    refine (hf _ (List.getElem_mem hlt) r hr).callV1 hb ?_
    intro w2 hb2
    refine bif_intro (fun h4 => ?_) (fun h4 => ?_)
    · rw [slices_IndexFunc_____int___int_.R2_s]
      refine ⟨?_, hb.trans (hb2.mono hb.size)⟩
      rw [idxF_at hlt h4 (fun j hj => hall j (by omega) hj)]
      congr 2; omega
    · refine ⟨k + 1, by rw [w64_succ h0 (by omega)], ⟨by omega, by omega, hb.trans (hb2.mono hb.size), fun j hj1 hj => ?_⟩, by omega⟩
      by_cases e : j = k.toNat
      · subst e; exact h4
      · exact hall j hj1 (by omega)
  · rw [slices_IndexFunc_____int___int_.A2_0_s]
    exact ⟨by rw [idxF_none (fun j hj => hall j hj (by omega))], hb⟩
end Go.Proofs.YteplokddaebbeaaGreat

/- The library's ContainsFunc over rows of rows. -/
namespace Go.Proofs.YteplokddaebbeaaGreat
open Go Go.RowKit
set_option maxRecDepth 100000

theorem c_ContainsFuncS {w : World} {a : Sl} {LL : List (List Int)} (ha : RowSS w a LL) (hL : LL.length < 2^38) {f : Value} {φ : List Int → Bool} (hf : ∀ L ∈ LL, ∀ r, RowI w r L → FnB w f [r.v] (φ L)) :
    Calls PP F.slices_ContainsFunc_____int___int_ #[a.v, f] w fun e w' => e = .returned (.bool (LL.any φ)) ∧ Below w.heap.size w w' := by
  refine slices_ContainsFunc_____int___int_.calls a f ?_
  rw [slices_ContainsFunc_____int___int_.E_s]
  refine (c_IndexFuncS ha hL hf).mono ?_
  rintro e w1 ⟨rfl, hb⟩
  exact ⟨_, rfl, by rw [idxF_nonneg], hb⟩
end Go.Proofs.YteplokddaebbeaaGreat
