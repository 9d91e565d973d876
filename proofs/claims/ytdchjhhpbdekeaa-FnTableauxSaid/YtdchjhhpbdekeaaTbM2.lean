/- The texts Draw, OpenB, CodeGT, CodeI, Foot in one (gmerge.py). -/
import Derived.Laws.Tables
import Derived.ChangeSlices
import Derived.WideShapes
import Derived.Test.YtdchjhhpbdekeaaTbM1
/- The draws: a cursor over the bytes handed in, numbers below a bound, permutations, and lists that are permutations mostly. -/
namespace Go.Proofs.Ytdchjhhpbdekeaa
open Go Go.RowKit
set_option maxRecDepth 100000

/-! ### Bytes -/
@[reducible] def vB (n : Int) : Value := .int .u8 n
/-- A row of bytes. -/
@[reducible] def RowB (w : World) (s : Sl) (L : List Int) : Prop := Row w s (L.map vB)
theorem RowB.get {w s L} (h : RowB w s L) {i : Int} (h0 : 0 ≤ i) (hi : i < L.length) {K : Int → Prop} (hk : K (L.getD i.toNat 0)) : idxK 1 s i fun a => load1 (.int .u8) a w K := by
  have hlt : i.toNat < L.length := by omega
  refine Row.get (sh := .int .u8) (r := L.getD i.toNat 0) h h0 ?_ hk
  simp [List.getD_eq_getElem?_getD, List.getElem?_eq_getElem hlt]
theorem wrap_and (a : Int) (m : Nat) (hm : m < 2^63) : 0 ≤ bAnd .i64 a m ∧ bAnd .i64 a m ≤ m := by
  unfold bAnd
  have h : (BitVec.ofInt IntKind.i64.bits a &&& BitVec.ofInt IntKind.i64.bits (m : Int)).toNat ≤ m := by
    rw [BitVec.toNat_and]
    refine Nat.le_trans Nat.and_le_right ?_
    simp [IntKind.bits]
    exact Nat.mod_le _ _
  have e : IntKind.i64.wrap (((BitVec.ofInt IntKind.i64.bits a &&& BitVec.ofInt IntKind.i64.bits (m : Int)).toNat : Nat) : Int) = ((BitVec.ofInt IntKind.i64.bits a &&& BitVec.ofInt IntKind.i64.bits (m : Int)).toNat : Nat) := w64_id (by omega) (by omega)
  rw [e]
  omega

/-! ### The cursor -/
structure Cur (w0 w : World) (c : Addr) : Prop where
  ex : ∃ (b : Sl) (L : List Int) (g : Nat) (i h : Int), c = ⟨g, 0, none⟩ ∧ RowB w0 b L ∧ L.length < 2^60 ∧ w0.heap.size ≤ g ∧ w.heap[g]? = some (.cells #[b.v, vI i, vI h] T_spec_l1Cur (0, 0)) ∧ 0 ≤ i ∧ i ≤ L.length
  below : Below w0.heap.size w0 w
/-- The cursor's block. -/
def CS (c : Addr) (k : Nat) : Prop := k = c.block
theorem Cur.lt {w0 w c} (h : Cur w0 w c) : w0.heap.size ≤ c.block ∧ c.block < w.heap.size := by
  obtain ⟨b, L, g, i, hh, rfl, _, _, h1, h2, _⟩ := h.ex
  exact ⟨h1, (Array.getElem?_eq_some_iff.1 h2).1⟩
theorem Cur.keeps {w0 w w' c} {S : Nat → Prop} (h : Cur w0 w c) (hk : Keeps S w w') (hS : ∀ k, S k → w0.heap.size ≤ k ∧ k ≠ c.block) : Cur w0 w' c := by
  have hl := h.lt
  refine ⟨?_, h.below.trans (hk.below (fun k hk => (hS k hk).1) h.below.size)⟩
  obtain ⟨b, L, g, i, hh, rfl, h1, h2, h3, h4, h5⟩ := h.ex
  refine ⟨b, L, g, i, hh, rfl, h1, h2, h3, ?_, h5⟩
  rw [hk.block g hl.2 (fun hs => (hS g hs).2 rfl)]; exact h4
theorem Cur.grow {w0 w w' c} (h : Cur w0 w c) (hb : Below w.heap.size w w') : Cur w0 w' c :=
  h.keeps (keeps_grown (grow_of_below hb)) (fun k hk => by cases hk)
theorem keeps_below {w w' : World} (hb : Below w.heap.size w w') (S : Nat → Prop) : Keeps S w w' := (keeps_grown (grow_of_below hb)).mono (fun k e => by cases e)
/-- What was made behind the cursor stays while the cursor moves. -/
theorem Own.curs {w w' B e s vs c} (h : Own w B e s vs) (hk : Keeps (CS c) w w') (hc : c.block < B) : Own w' B e s vs :=
  h.keeps hk fun g hg hs => by have := (h.lt g hg).1; unfold CS at hs; omega
theorem cur_load {w : World} {g k : Nat} {cs : Array Value} {t : TypeId} (hg : w.heap[g]? = some (.cells cs t (0, 0))) {s : Sh} {r : s.T} (hc : cs[k]? = some (s.enc r)) {K : s.T → Prop} (hk : K r) : load1 s ((⟨g, 0, none⟩ : Addr).add k) w K := by
  refine ⟨r, ?_, hk⟩
  rw [add_lit, cell_of_row w g (0 + k) cs t (0, 0) hg, Nat.zero_add]
  exact hc
theorem cur_store {w : World} {g k : Nat} {cs : Array Value} {t : TypeId} (hg : w.heap[g]? = some (.cells cs t (0, 0))) (hk : k < cs.size) {v : Value} {K : World → Prop}
    (h : ∀ w', w'.heap[g]? = some (.cells (cs.setIfInBounds k v) t (0, 0)) → Keeps (fun x => x = g) w w' → w'.heap.size = w.heap.size → K w') : storeC ((⟨g, 0, none⟩ : Addr).add k) v w K := by
  rw [add_lit, Nat.zero_add]
  have hcell := cell_of_row w g k cs t (0, 0) hg
  refine ⟨⟨cs[k], by rw [hcell]; simp [hk]⟩, by simp [World.frozen?, hg], h _ ?_ ⟨rfl, rfl, rfl, by simp [World.setCell], fun x hx hne => Below.heap_setCell _ _ _ _ (fun e => hne e)⟩ (by simp [World.setCell])⟩
  simp [World.setCell, Array.getElem?_modify, hg]

theorem c_l1New {w : World} {a : Sl} {L : List Int} (ha : RowB w a L) (hL : L.length < 2^60) :
    Calls PP F.spec_l1New #[a.v] w fun e w' => ∃ c, e = .returned (.pointer (some c)) ∧ Cur w w' c := by
  have han : a.n = L.length := by have := ha.n; simpa using this
  refine spec_l1New.calls a ?_
  rw [spec_l1New.E_s]
  have fin : ∀ h R, (∀ c w', Cur w w' c → R (.returned (.pointer (some c))) w') → spec_l1New.q1 std R (.exit 0) (spec_l1New.x0 a h) w := by
    intro h R hR
    rw [spec_l1New.A3_0_s]
    refine ⟨_, fun w => run_build w _ _ #[a.v, vI 0, vI h] (by kernel_rfl), ?_⟩
    refine hR _ _ ⟨⟨a, L, w.heap.size, 0, h, rfl, ha, hL, Nat.le_refl _, heap_alloc_new w _, by omega, by omega⟩, below_of_grow (World.grownBy_alloc w _ none)⟩
  refine spec_l1New.L3_rule _ _ _ _ _ (I := fun h i w' => w' = w ∧ 0 ≤ i ∧ i ≤ L.length) (μ := fun _ i _ => (L.length - i).toNat) ⟨rfl, by omega, by omega⟩ ?_
  rintro h i w' ⟨rfl, h0, hi⟩
  rw [spec_l1New.B3_s, han]
  refine bif_dec (fun h3 => ?_) (fun h3 => ?_)
  · refine bif_dec (fun h4 => ?_) (fun h4 => ?_)
    · refine RowB.get ha h0 (by omega) ?_
      exact ⟨_, i + 1, by rw [w64_succ h0 (by omega)], ⟨rfl, by omega, by omega⟩, by omega⟩
    · exact fin _ _ (fun c w' hc => ⟨c, rfl, hc⟩)
  · exact fin _ _ (fun c w' hc => ⟨c, rfl, hc⟩)

theorem c_l1Byte {w0 w : World} {c : Addr} (hc : Cur w0 w c) :
    Calls PP F.spec_l1Byte #[.pointer (some c)] w fun e w' => ∃ x : Int, e = .returned (vI x) ∧ 0 ≤ x ∧ x ≤ 255 ∧ Cur w0 w' c ∧ Keeps (CS c) w w' := by
  have hlt := hc.lt
  have hbel := hc.below
  obtain ⟨b, L, g, i, h, rfl, hb, hL, hg, hcell, hi0, hi⟩ := hc.ex
  have hbn : b.n = L.length := by have := hb.n; simpa using this
  refine spec_l1Byte.calls ⟨g, 0, none⟩ ?_
  rw [spec_l1Byte.E_s]
  refine cur_load hcell (s := .int .i64) (r := h) (by rfl) ?_
  refine cur_store hcell (by simp) ?_
  intro w1 hg1 hk1 hs1
  have hb1 : Below w0.heap.size w0 w1 := hbel.trans (hk1.below (fun k e => by rw [e]; exact hg) hbel.size)
  generalize w64 (w64 (h * 6364136223846793005) + 1442695040888963407) = h' at hg1
  have hg1 : w1.heap[g]? = some (.cells #[b.v, vI i, vI h'] T_spec_l1Cur (0, 0)) := hg1
  refine cur_load hg1 (s := .int .i64) (r := h') (by rfl) ?_
  refine ⟨by omega, ?_⟩
  refine cur_load hg1 (s := .int .i64) (r := h') (by rfl) ?_
  refine ⟨by omega, ?_⟩
  refine drew_intro fun w4 hd4 => ?_
  have hg4 : w4.heap[g]? = some (.cells #[b.v, vI i, vI h'] T_spec_l1Cur (0, 0)) := by rw [hd4.heap']; exact hg1
  refine cur_load hg4 (s := .int .i64) (r := i) (by rfl) ?_
  refine cur_load hg4 (s := .sl) (r := b) (by rfl) ?_
  refine drew_intro fun w8 hd8 => ?_
  have hd18 := hd4.trans hd8
  have hg8 : w8.heap[g]? = some (.cells #[b.v, vI i, vI h'] T_spec_l1Cur (0, 0)) := by rw [hd18.heap']; exact hg1
  have hb8 : Below w0.heap.size w0 w8 := hb1.trans (hd18.below _)
  have hk8 : Keeps (CS ⟨g, 0, none⟩) w w8 := (hk1.mono fun k e => e).trans (hd18.keeps _)
  have hm := fun a => wrap_and a 255 (by decide)
  rw [hbn]
  refine bif_dec (fun h3 => ?_) (fun h3 => ?_)
  · refine cur_load hg8 (s := .sl) (r := b) (by rfl) ?_
    refine cur_load hg8 (s := .int .i64) (r := i) (by rfl) ?_
    refine RowB.get (hb.grow hb8) hi0 (by omega) ?_
    refine drew_intro fun w13 hd13 => ?_
    have hg13 : w13.heap[g]? = some (.cells #[b.v, vI i, vI h'] T_spec_l1Cur (0, 0)) := by rw [hd13.heap']; exact hg8
    refine cur_load hg13 (s := .int .i64) (r := i) (by rfl) ?_
    refine cur_store hg13 (by simp) ?_
    intro w15 hg15 hk15 hs15
    rw [w64_succ hi0 (by omega)] at hg15
    rw [spec_l1Byte.J6_s]
    have hb13 := hb8.trans (hd13.below w0.heap.size)
    refine ⟨_, rfl, (hm _).1, (hm _).2, ⟨⟨b, L, g, i + 1, h', rfl, hb, hL, hg, hg15, by omega, by omega⟩, hb13.trans (hk15.below (fun k e => by rw [e]; exact hg) hb13.size)⟩, (hk8.trans (hd13.keeps _)).trans (hk15.mono fun k e => e)⟩
  · rw [spec_l1Byte.J6_s]
    exact ⟨_, rfl, (hm _).1, (hm _).2, ⟨⟨b, L, g, i, h', rfl, hb, hL, hg, hg8, hi0, hi⟩, hb8⟩, hk8⟩

theorem c_l1Below {w0 w : World} {c : Addr} (hc : Cur w0 w c) {n : Int} (hn : n ≤ 256) :
    Calls PP F.spec_l1Below #[.pointer (some c), vI n] w fun e w' => ∃ x : Int, e = .returned (vI x) ∧ 0 ≤ x ∧ (x < n ∨ x = 0) ∧ Cur w0 w' c ∧ Keeps (CS c) w w' := by
  refine spec_l1Below.calls c n ?_
  rw [spec_l1Below.E_s]
  refine bif_dec (fun h => ?_) (fun h => ?_)
  · exact ⟨0, rfl, by omega, .inr rfl, hc, Keeps.refl _ _⟩
  refine bif_dec (fun h2 => ?_) (fun h2 => absurd hn h2)
  refine (c_l1Byte hc).mono ?_
  rintro e w1 ⟨x, rfl, h0, h1, hc1, hk1⟩
  refine ⟨x, rfl, by omega, ?_⟩
  have e1 : x.tmod n = x % n := Int.tmod_eq_emod_of_nonneg h0
  refine ⟨_, rfl, ?_, .inl ?_, hc1, hk1⟩
  · rw [e1]; exact Int.emod_nonneg _ (by omega)
  · rw [e1]; exact Int.emod_lt_of_pos _ (by omega)
theorem c_l1Once {w0 w : World} {c : Addr} (hc : Cur w0 w c) {n : Int} (hn : n ≤ 256) :
    Calls PP F.spec_l1Once #[.pointer (some c), vI n] w fun e w' => ∃ b : Bool, e = .returned (.bool b) ∧ Cur w0 w' c ∧ Keeps (CS c) w w' := by
  refine spec_l1Once.calls c n ?_
  rw [spec_l1Once.E_s]
  refine (c_l1Below hc hn).mono ?_
  rintro e w1 ⟨x, rfl, h0, h1, hc1, hk1⟩
  exact ⟨x, rfl, _, rfl, hc1, hk1⟩
theorem c_l1PickInt {w0 w : World} {c : Addr} (hc : Cur w0 w c) {s : Sl} {L : List Int} (hs : ∀ w', Keeps (CS c) w w' → RowI w' s L) (h1 : 0 < L.length) (h2 : L.length ≤ 256) :
    Calls PP F.spec_l1PickInt #[.pointer (some c), s.v] w fun e w' => ∃ x : Int, e = .returned (vI x) ∧ x ∈ L ∧ Cur w0 w' c ∧ Keeps (CS c) w w' := by
  have hsn : s.n = L.length := by have := (hs w (Keeps.refl _ _)).n; simpa using this
  refine spec_l1PickInt.calls c s ?_
  rw [spec_l1PickInt.E_s, hsn]
  refine (c_l1Below hc (by omega)).mono ?_
  rintro e w1 ⟨x, rfl, h0, h3, hc1, hk1⟩
  refine ⟨x, rfl, ?_⟩
  refine RowI.get (hs w1 hk1) h0 (by omega) ?_
  have hlt : x.toNat < L.length := by omega
  exact ⟨_, rfl, by simp [List.getD_eq_getElem?_getD, List.getElem?_eq_getElem hlt], hc1, hk1⟩

/-! ### Permutations -/
def upTo (n : Nat) : List Int := (List.range n).map fun (i : Nat) => (i : Int) + 1
theorem upTo_succ (n : Nat) : upTo (n + 1) = upTo n ++ [(n : Int) + 1] := by simp [upTo, List.range_succ]
theorem upTo_length (n : Nat) : (upTo n).length = n := by simp [upTo]
theorem ins_perm {L : List Int} {n at_ : Nat} (h : L.Perm (upTo n)) : (L.take at_ ++ [(n : Int) + 1] ++ L.drop at_).Perm (upTo (n + 1)) := by
  rw [upTo_succ]
  refine List.Perm.trans ?_ (List.Perm.append_right _ h)
  rw [List.append_assoc]
  have h1 : (L.take at_ ++ ([(n : Int) + 1] ++ L.drop at_)).Perm (L.take at_ ++ (L.drop at_ ++ [(n : Int) + 1])) := List.Perm.append_left _ List.perm_append_comm
  have h2 : L.take at_ ++ (L.drop at_ ++ [(n : Int) + 1]) = L ++ [(n : Int) + 1] := by rw [← List.append_assoc, List.take_append_drop]
  rwa [h2] at h1
theorem upTo_mem {n : Nat} {x : Int} : x ∈ upTo n ↔ 1 ≤ x ∧ x ≤ n := by
  simp only [upTo, List.mem_map, List.mem_range]
  constructor
  · rintro ⟨i, hi, rfl⟩; omega
  · rintro ⟨h1, h2⟩; exact ⟨(x - 1).toNat, by omega, by omega⟩

theorem c_l2Draw {w0 w : World} {c : Addr} (hc : Cur w0 w c) {n : Nat} (hn : n ≤ 200) :
    Calls PP F.spec_l2Draw #[.pointer (some c), vI n] w fun e w' => ∃ (s : Sl) (L : List Int), e = .returned s.v ∧ OwnI w' w.heap.size s L ∧ L.Perm (upTo n) ∧ Cur w0 w' c ∧ Keeps (CS c) w w' := by
  have hcl := hc.lt
  refine spec_l2Draw.calls c n ?_
  rw [spec_l2Draw.E_s]
  refine lit0 oneInt (B := w.heap.size) (Nat.le_refl _) ?_
  intro o w1 ho hg1 _
  have hb1 := below_of_grow hg1
  refine spec_l2Draw.L3_rule _ _ _ _ _ _ (I := fun o k w' => 1 ≤ k ∧ k ≤ n + 1 ∧ Cur w0 w' c ∧ Keeps (CS c) w w' ∧ ∃ L : List Int, OwnI w' w.heap.size o L ∧ L.Perm (upTo (k - 1).toNat)) (μ := fun _ k _ => (n + 1 - k).toNat)
    ⟨by omega, by omega, hc.grow hb1, keeps_below hb1 _, [], by simpa [OwnI] using ho, by simp [upTo]⟩ ?_
  rintro o k w2 ⟨hk1, hk, hc2, hkp2, L, hoL, hp⟩
  have hlen : L.length = (k - 1).toNat := by rw [hp.length_eq, upTo_length]
  have hon : o.n = L.length := by have := hoL.n; simpa using this
  rw [spec_l2Draw.B3_s]
  refine bif_dec (fun h3 => ?_) (fun h3 => ?_)
  · rw [hon, w64_id (n := (L.length : Int) + 1) (by omega) (by omega)]
    refine (c_l1Below hc2 (by omega)).mono ?_
    rintro e w3 ⟨at_, rfl, h0, h1, hc3, hk3⟩
    refine ⟨at_, rfl, ?_⟩
    have h1 : at_ ≤ L.length := by omega
    have ho3 : OwnI w3 w.heap.size o L := Own.curs hoL hk3 hcl.2
    have hkp3 := hkp2.trans hk3
    have hsz3 := hkp3.size
    refine lit0 oneInt (B := w3.heap.size) (Nat.le_refl _) ?_
    intro r w4 hr hg4 _
    have hb34 := below_of_grow hg4
    have ho4 := Own.grow ho3 hb34
    refine Row.cut ho4.row (by simpa using h0) (by simp <;> omega) (by simp <;> omega) fun s16 hs16 => ?_
    have e2 : (List.take ((none : Option Int).getD (o.n : Int)).toNat (L.map vI)).drop ((some at_).getD 0).toNat = (L.drop at_.toNat).map vI := by
      rw [hon]; simp [List.map_drop, List.take_of_length_le]
    rw [e2] at hs16
    refine append_row oneInt hr (by have := hb34.size; omega) hs16 (fun v hv => by obtain ⟨x, _, rfl⟩ := List.mem_map.1 hv; exact One.int x) (by simp; omega) ?_
    intro r2 w5 hr2 hg5 _ _
    rw [List.nil_append] at hr2
    have hb35 := hb34.grown hg5 hb34.size (fun g hg => (hr.lt g hg).1)
    have ho5 := Own.grow ho3 hb35
    have hc5 := hc3.grow hb35
    have hkp5 := hkp3.trans (keeps_below hb35 (CS c))
    refine Own.pop ho5 h0 (by rw [List.length_map]; omega) fun s20 hs20 hblk => ?_
    rw [← List.map_take] at hs20
    have hs20 : OwnI w5 w.heap.size s20 (L.take at_.toNat) := hs20
    refine append_int hs20 hkp5.size (by rw [List.length_take]; omega) ?_
    intro o7 w7 ho7 hg7 hn7
    have h57 : Below w.heap.size w5 w7 := (Below.refl _ _).grown hg7 hkp5.size (fun g hg => (hs20.lt g hg).1)
    have hc7 := hc5.keeps (keeps_grown hg7) (fun k hk => by have := (hs20.lt k hk).1; omega)
    have hlt3 : ∀ g, o.blk = some g → g < w3.heap.size := fun g hg => (ho3.lt g hg).2
    have hr7 : Own w7 w3.heap.size T_int r2 ((L.drop at_.toNat).map vI) := Own.keeps hr2 (keeps_grown hg7) (fun g hg hg2 => by
      rw [hblk] at hg2; have := hlt3 g hg2; have := (hr2.lt g hg).1; omega)
    refine append_row oneInt ho7 (Nat.le_trans hkp5.size h57.size) hr7.row (fun v hv => by obtain ⟨x, _, rfl⟩ := List.mem_map.1 hv; exact One.int x) (by simp; omega) ?_
    intro o8 w8 ho8 hg8 _ _
    rw [← List.map_append] at ho8
    have h78 : Below w.heap.size w7 w8 := (Below.refl _ _).grown hg8 (Nat.le_trans hkp5.size h57.size) (fun g hg => (ho7.lt g hg).1)
    have hc8 := hc7.keeps (keeps_grown hg8) (fun k hk => by have := (ho7.lt k hk).1; omega)
    have hkp8 : Keeps (CS c) w w8 := by
      have h58 := h57.trans h78
      exact ⟨h58.os.trans hkp5.os, h58.tape.trans hkp5.tape, h58.output.trans hkp5.output, Nat.le_trans hkp5.size h58.size, fun x hx hn => (h58.block x hx).trans (hkp5.block x hx hn)⟩
    refine ⟨o8, k + 1, by rw [w64_succ (by omega) (by omega)], ⟨by omega, by omega, hc8, hkp8, _, ho8, ?_⟩, by omega⟩
    have := ins_perm (at_ := at_.toNat) hp
    rw [show (((k - 1).toNat : Nat) : Int) + 1 = k by omega, show (k - 1).toNat + 1 = (k + 1 - 1).toNat by omega] at this
    exact this
  · rw [spec_l2Draw.A3_0_s]
    rw [show (k - 1).toNat = n by omega] at hp
    exact ⟨o, L, rfl, hoL, hp, hc2, hkp2⟩
/-- A literal of ints. -/
theorem litL {w : World} {B : Nat} (hB : B ≤ w.heap.size) (n : Nat) (parts : Array (Nat × Value)) (L : List Int) (h0 : 0 < n) (hn : L.length = n) (hm : n ≤ 1000)
    (hf : Instr.fill (fun i => some (i * 1, 1)) ((Array.range (n * 1)).map ((vI 0).cells[· % (vI 0).cells.size]!)) parts.toList = some (L.map vI).toArray) {K : Sl → World → Prop}
    (h : ∀ s w', OwnI w' B s L → Below w.heap.size w w' → K s w') : sem1 .sl PP (Instr.buildSlice T_Sint n parts) w K := by
  obtain ⟨i, hu, hi, hz, hs, hb, hzc⟩ := oneInt
  have hrun : (Instr.buildSlice T_Sint n parts).run PP w = .ok (.slice (some ⟨w.heap.size, 0, none⟩) n n) (w.alloc (.cells (L.map vI).toArray T_int)) := by
    refine run_buildSlice w T_Sint T_int n parts (L.map vI).toArray i (vI 0) hu hi hz (by rw [hs]; omega) (by rw [hs]; omega) ?_
    rw [hs]
    exact hf
  exact ⟨⟨some ⟨w.heap.size, 0, none⟩, n, n⟩, _, hrun, h _ _ ⟨by simp [hn], Nat.le_refl _, by simp only [maxLen]; omega, .inr ⟨_, _, rfl, hB, heap_alloc_new w _, by simp [hn], by
    show (L.map vI).toArray.toList.take n = L.map vI
    exact List.take_of_length_le (by simp [hn])⟩⟩ (below_of_grow (World.grownBy_alloc w _ none))⟩
theorem c_l2Any {w0 w : World} {c : Addr} (hc : Cur w0 w c) :
    Calls PP F.spec_l2Any #[.pointer (some c)] w fun e w' => ∃ (s : Sl) (L : List Int) (n : Nat), e = .returned s.v ∧ OwnI w' w.heap.size s L ∧ L.Perm (upTo n) ∧ n ≤ 8 ∧ Cur w0 w' c ∧ Keeps (CS c) w w' := by
  have hcl := hc.lt
  refine spec_l2Any.calls c ?_
  rw [spec_l2Any.E_s]
  refine litL (B := w.heap.size) (Nat.le_refl _) 11 _ [0, 1, 2, 3, 4, 5, 5, 6, 6, 7, 8] (by omega) rfl (by omega) (by kernel_rfl) ?_
  intro t w1 ht hb1
  have hc1 := hc.grow hb1
  refine (c_l1PickInt hc1 (L := [0, 1, 2, 3, 4, 5, 5, 6, 6, 7, 8]) (fun w' hk => (Own.curs ht hk hcl.2).row) (by simp) (by simp)).mono ?_
  rintro e w2 ⟨x, rfl, hx, hc2, hk2⟩
  refine ⟨x, rfl, ?_⟩
  have hx : 0 ≤ x ∧ x ≤ 8 := by simp at hx; omega
  obtain ⟨n, rfl⟩ : ∃ n : Nat, x = n := ⟨x.toNat, by omega⟩
  have hk02 := (keeps_below hb1 (CS c)).trans hk2
  refine (c_l2Draw hc2 (n := n) (by omega)).mono ?_
  rintro e w3 ⟨s, L, rfl, hs, hp, hc3, hk3⟩
  exact ⟨s, rfl, s, L, n, rfl, hs.mono hk02.size, hp, by omega, hc3, hk02.trans hk3⟩
/-- What a list is that is a permutation mostly. -/
def Bent (L : List Int) : Prop := L.length ≤ 9 ∧ ∀ x ∈ L, -1 ≤ x ∧ x ≤ 11
theorem bent_of {L : List Int} {n : Nat} (h : L.Perm (upTo n)) (hn : n ≤ 8) : L.length ≤ 8 ∧ ∀ x ∈ L, -1 ≤ x ∧ x ≤ 11 :=
  ⟨by rw [h.length_eq, upTo_length]; exact hn, fun x hx => by have := upTo_mem.1 (h.mem_iff.1 hx); omega⟩
theorem c_l2Bent {w0 w : World} {c : Addr} (hc : Cur w0 w c) :
    Calls PP F.spec_l2Bent #[.pointer (some c)] w fun e w' => ∃ (s : Sl) (L : List Int), e = .returned s.v ∧ OwnI w' w.heap.size s L ∧ Bent L ∧ Cur w0 w' c ∧ Keeps (CS c) w w' := by
  have hcl := hc.lt
  refine spec_l2Bent.calls c ?_
  rw [spec_l2Bent.E_s]
  refine (c_l2Any hc).mono ?_
  rintro e w1 ⟨s, L, n, rfl, hs, hp, hn, hc1, hk1⟩
  refine ⟨s, rfl, ?_⟩
  obtain ⟨hl, hx⟩ := bent_of hp hn
  have hsn : s.n = L.length := by have := hs.n; simpa using this
  refine (c_l1Below hc1 (n := 14) (by omega)).mono ?_
  rintro e w2 ⟨x, rfl, _, _, hc2, hk2⟩
  refine ⟨x, rfl, ?_⟩
  have hs2 := Own.curs hs hk2 hcl.2
  have hk12 := hk1.trans hk2
  have asis : ∃ (t : Sl) (M : List Int), Ending.returned s.v = .returned t.v ∧ OwnI w2 w.heap.size t M ∧ Bent M ∧ Cur w0 w2 c ∧ Keeps (CS c) w w2 := ⟨s, L, rfl, hs2, ⟨by omega, hx⟩, hc2, hk12⟩
  refine bif_intro (fun h => ?_) (fun h => ?_)
  · refine (c_l1Below hc2 (n := 12) (by omega)).mono ?_
    rintro e w3 ⟨y, rfl, hy0, hy1, hc3, hk3⟩
    refine ⟨y, rfl, ?_⟩
    have hk13 := hk12.trans hk3
    have ey := w64_id (n := y - 1) (by omega) (by omega)
    dsimp only
    rw [ey]
    refine append_int (Own.curs hs2 hk3 hcl.2) hk13.size (by omega) ?_
    intro s' w4 hs' hg4 _
    have hs3 := Own.curs hs2 hk3 hcl.2
    refine ⟨s', _, rfl, hs', ⟨by simp; omega, fun z hz => ?_⟩, hc3.keeps (keeps_grown hg4) (fun k hk => by have := (hs3.lt k hk).1; omega), ?_⟩
    · rcases List.mem_append.1 hz with hz | hz
      · exact hx z hz
      · simp at hz; omega
    · have h34 : Below w.heap.size w3 w4 := (Below.refl _ _).grown hg4 hk13.size (fun g hg => (hs3.lt g hg).1)
      exact ⟨h34.os.trans hk13.os, h34.tape.trans hk13.tape, h34.output.trans hk13.output, Nat.le_trans hk13.size h34.size, fun x hx hn => (h34.block x hx).trans (hk13.block x hx hn)⟩
  · refine bif_intro (fun h => ?_) (fun h => ?_)
    · refine bif_dec (fun h4 => ?_) (fun h4 => ?_)
      · refine (c_l1Below hc2 (n := 11) (by omega)).mono ?_
        rintro e w3 ⟨y, rfl, hy0, hy1, hc3, hk3⟩
        refine ⟨y, rfl, ?_⟩
        have hk13 := hk12.trans hk3
        have hs3 := Own.curs hs2 hk3 hcl.2
        have ey := w64_id (n := y - 1) (by omega) (by omega)
        dsimp only
        rw [ey]
        refine Own.put hs3 (by omega) (by rw [List.length_map]; omega) ?_
        intro w4 ho4 hg4 _
        have ho4 : OwnI w4 w.heap.size s (L.set 0 (y - 1)) := by simpa [OwnI, List.map_set] using ho4
        refine ⟨s, _, rfl, ho4, ⟨by simp; omega, fun z hz => ?_⟩, hc3.keeps (keeps_grown hg4) (fun k hk => by have := (hs3.lt k hk).1; omega), ?_⟩
        · rcases List.mem_or_eq_of_mem_set hz with hz | hz
          · exact hx z hz
          · omega
        · have h34 : Below w.heap.size w3 w4 := (Below.refl _ _).grown hg4 hk13.size (fun g hg => (hs3.lt g hg).1)
          exact ⟨h34.os.trans hk13.os, h34.tape.trans hk13.tape, h34.output.trans hk13.output, Nat.le_trans hk13.size h34.size, fun x hx hn => (h34.block x hx).trans (hk13.block x hx hn)⟩
      · exact asis
    · exact asis
/-- A draw of such a list, of the bytes handed in. -/
def Drawn (w : World) (e : Ending) (w' : World) : Prop := ∃ (s : Sl) (L : List Int), e = .returned s.v ∧ OwnI w' w.heap.size s L ∧ Bent L ∧ Below w.heap.size w w'
theorem c_bentOf {w : World} {a : Sl} {L : List Int} (ha : RowB w a L) (hL : L.length < 2^60) {K : Sl → World → Prop} (hk : ∀ s M w', OwnI w' w.heap.size s M → Bent M → Below w.heap.size w w' → K s w') :
    call1 .ptr PP F.spec_l1New #[a.v] w fun (c : Option Addr) w1 => call1 .sl PP F.spec_l2Bent #[.pointer c] w1 K := by
  refine (c_l1New ha hL).mono ?_
  rintro e w1 ⟨c, rfl, hc⟩
  refine ⟨some c, rfl, ?_⟩
  refine (c_l2Bent hc).mono ?_
  rintro e w2 ⟨s, M, rfl, hs, hM, hc2, hk2⟩
  exact ⟨s, rfl, hk s M w2 (hs.mono hc.below.size) hM hc2.below⟩
end Go.Proofs.Ytdchjhhpbdekeaa

/- What the statement hands in: an argument's reading as a row of bytes. -/
namespace Go.Proofs.Ytdchjhhpbdekeaa
open Go Go.RowKit Go.ChangeShapes Go.WideShapes

theorem trod_bytes {P : Program} {H : Type} {enc : TypeId × Value → H} {W : World} {r : Reach} {b0 : Nat} {t e : TypeId} {v : Value} {d : DataW H} {ps : List MemPlace} (ht : P.underlying t = some (.slice e)) (he : P.underlying e = some (.int .u8)) (hc : P.cellsOf e = 1)
    (hval : Value.okWide P W r b0 t v) (h : DataW.Trod enc P W 0 (fun _ => true) true t v d ps) :
    ∃ (s : Sl) (L : List Int), v = s.v ∧ RowB W s L ∧ L.length ≤ maxLen := by
  obtain ⟨a, len, cap, rfl⟩ := okWide_slice ht hval
  obtain ⟨fuel, hf⟩ := h
  rcases open_ints ht he hc hf with ⟨hcs, hx⟩ | ⟨ad, len', cap', zs, hcs, _, hl, hm, hz, hx, hcell, hw⟩
  · simp [Value.cells] at hcs
    obtain ⟨rfl, rfl, rfl⟩ := hcs
    exact ⟨Sl.nil, [], rfl, ⟨rfl, Nat.le_refl _, fun i v hv => by simp at hv⟩, by simp⟩
  · simp [Value.cells] at hcs
    obtain ⟨rfl, rfl, rfl⟩ := hcs
    have hzl : zs.length = cap := by simpa using hz
    refine ⟨⟨some ad, len, cap⟩, zs.take len, rfl, ⟨by simp; omega, hl, fun i u hu => ⟨ad, rfl, ?_⟩⟩, by simp; omega⟩
    rw [List.getElem?_map, List.getElem?_take] at hu
    split at hu
    · rename_i hi
      have := hcell i (by omega)
      rw [this]
      rw [List.getElem?_eq_getElem (by omega)] at hu
      simp at hu
      rw [← hu]
      simp [List.getD_eq_getElem?_getD, List.getElem?_eq_getElem (show i < zs.length by omega)]
    · simp at hu
end Go.Proofs.Ytdchjhhpbdekeaa

/- What each function does, step by step, written by a program (Gen.lean); each equation is checked by the kernel. -/
namespace Go.Proofs.Ytdchjhhpbdekeaa
open Go
set_option linter.unusedVariables false
set_option maxRecDepth 100000
namespace laws_FnTableaux
@[reducible] def cfg : Cfg := ⟨275, [(18, [3, 4, 5, 6, 16, 17, 18, 21, 22, 23, 24])], [(1, [3, 4, 5, 6, 16, 17, 18, 21, 22, 23, 24]), (0, [3, 4, 5, 6, 16, 17, 18, 21, 22])], [(16, [3, 4, 5, 6, 16, 17, 18, 21, 22, 23, 155]), (17, [3, 4, 5, 6, 16, 17, 18, 21, 22, 23]), (21, [3, 4, 5, 6, 16, 17, 18, 21, 22, 23, 24, 189]), (19, [3, 4, 5, 6, 16, 17, 18, 21, 22, 23, 24]), (23, [3, 4, 5, 6, 16, 17, 18, 199]), (24, [3, 4, 5, 6, 16, 17, 18]), (27, [3, 4, 5, 6, 213]), (28, [3, 4, 5, 6])], [2], [], [101, 107, 112, 15, 21, 124, 76, 137, 28, 115, 91, 81, 130], [138, 140, 82, 6, 86, 85, 132]⟩
def q34 (pr : Prims) (R : Ending → World → Prop) : Exit → Env → World → Prop := fun ex e w => normQ ex (fun e w => contE pr cfg (sub (codeOf Try.f5) [1, 1, 1, 1, 1, 1, 1, 1, 1, 1, 1, 1, 1, 1, 1]) (fun e w => wpC pr PP cfg (DD pr) (sub (codeOf Try.f5) [1, 1, 1, 1, 1, 1, 1, 1, 1, 1, 1, 1, 1, 1, 1]) (retQ Try.f5.results.toList R) e w) e w) (retQ Try.f5.results.toList R) e w
def q35 (pr : Prims) (R : Ending → World → Prop) : Exit → Env → World → Prop := fun ex e w => normQ ex (fun e w => contE pr cfg (sub (codeOf Try.f5) [1, 1, 1, 1, 1, 1, 1, 1, 1, 1, 1, 1, 1, 1, 0, 1]) (fun e w => wpC pr PP cfg (DD pr) (sub (codeOf Try.f5) [1, 1, 1, 1, 1, 1, 1, 1, 1, 1, 1, 1, 1, 1, 0, 1]) (q34 pr R) e w) e w) (q34 pr R) e w
def q36 (pr : Prims) (R : Ending → World → Prop) : Exit → Env → World → Prop := fun ex e w => normQ ex (fun e w => contE pr cfg (sub (codeOf Try.f5) [1, 1, 1, 1, 1, 1, 1, 1, 1, 1, 1, 1, 1, 1, 1, 1]) (fun e w => wpC pr PP cfg (DD pr) (sub (codeOf Try.f5) [1, 1, 1, 1, 1, 1, 1, 1, 1, 1, 1, 1, 1, 1, 1, 1]) (retQ Try.f5.results.toList R) e w) e w) (retQ Try.f5.results.toList R) e w
def q37 (pr : Prims) (R : Ending → World → Prop) : Exit → Env → World → Prop := fun ex e w => blockQ ex 0 (q36 pr R) e w
def q38 (pr : Prims) (k : Env → World → Prop) (Q : Exit → Env → World → Prop) : Exit → Env → World → Prop := fun ex e w => normQ ex (fun e w => contE pr cfg (sub (codeOf Try.f5) [1, 1, 1, 1, 1, 1, 1, 1, 1, 1, 1, 1, 1, 1, 1, 0, 1, 0, 0, 1, 1]) (fun e w => wpC pr PP cfg (DD pr) (sub (codeOf Try.f5) [1, 1, 1, 1, 1, 1, 1, 1, 1, 1, 1, 1, 1, 1, 1, 0, 1, 0, 0, 1, 1]) (fun ex e w => normQ ex (fun e' w' => k (Env.restr e' (lookN cfg.loops (keyOf (sub (codeOf Try.f5) [1, 1, 1, 1, 1, 1, 1, 1, 1, 1, 1, 1, 1, 1, 1, 0, 1, 0, 0])))) w') Q e w) e w) e w) (fun ex e w => normQ ex (fun e' w' => k (Env.restr e' (lookN cfg.loops (keyOf (sub (codeOf Try.f5) [1, 1, 1, 1, 1, 1, 1, 1, 1, 1, 1, 1, 1, 1, 1, 0, 1, 0, 0])))) w') Q e w) e w
def q39 (pr : Prims) (k : Env → World → Prop) (Q : Exit → Env → World → Prop) : Exit → Env → World → Prop := fun ex e w => blockQ ex 1 (q38 pr k Q) e w
def q40 (pr : Prims) (k : Env → World → Prop) (Q : Exit → Env → World → Prop) : Exit → Env → World → Prop := fun ex e w => normQ ex (fun e w => contE pr cfg (sub (codeOf Try.f5) [1, 1, 1, 1, 1, 1, 1, 1, 1, 1, 1, 1, 1, 1, 1, 0, 1, 0, 0, 1, 0, 0, 1]) (fun e w => wpC pr PP cfg (DD pr) (sub (codeOf Try.f5) [1, 1, 1, 1, 1, 1, 1, 1, 1, 1, 1, 1, 1, 1, 1, 0, 1, 0, 0, 1, 0, 0, 1]) (q39 pr k Q) e w) e w) (q39 pr k Q) e w
def q72 (pr : Prims) (R : Ending → World → Prop) : Exit → Env → World → Prop := fun ex e w => normQ ex (fun e w => contE pr cfg (sub (codeOf Try.f5) [1, 1, 1, 1, 1, 1, 1, 1, 1, 1, 1, 1, 1, 1, 1, 1, 1]) (fun e w => wpC pr PP cfg (DD pr) (sub (codeOf Try.f5) [1, 1, 1, 1, 1, 1, 1, 1, 1, 1, 1, 1, 1, 1, 1, 1, 1]) (retQ Try.f5.results.toList R) e w) e w) (retQ Try.f5.results.toList R) e w
def q73 (pr : Prims) (R : Ending → World → Prop) : Exit → Env → World → Prop := fun ex e w => normQ ex (fun e w => contE pr cfg (sub (codeOf Try.f5) [1, 1, 1, 1, 1, 1, 1, 1, 1, 1, 1, 1, 1, 1, 1, 1, 0, 1]) (fun e w => wpC pr PP cfg (DD pr) (sub (codeOf Try.f5) [1, 1, 1, 1, 1, 1, 1, 1, 1, 1, 1, 1, 1, 1, 1, 1, 0, 1]) (q72 pr R) e w) e w) (q72 pr R) e w
def q76 (pr : Prims) (R : Ending → World → Prop) : Exit → Env → World → Prop := fun ex e w => normQ ex (fun e w => contE pr cfg (sub (codeOf Try.f5) [1, 1, 1, 1, 1, 1, 1, 1, 1, 1, 1, 1, 1, 1, 1, 1, 1, 1]) (fun e w => wpC pr PP cfg (DD pr) (sub (codeOf Try.f5) [1, 1, 1, 1, 1, 1, 1, 1, 1, 1, 1, 1, 1, 1, 1, 1, 1, 1]) (retQ Try.f5.results.toList R) e w) e w) (retQ Try.f5.results.toList R) e w
def q80 (pr : Prims) (R : Ending → World → Prop) : Exit → Env → World → Prop := fun ex e w => normQ ex (fun e w => contE pr cfg (sub (codeOf Try.f5) [1, 1, 1, 1, 1, 1, 1, 1, 1, 1, 1, 1, 1, 1, 1, 1, 1, 0, 1, 0, 1, 1]) (fun e w => wpC pr PP cfg (DD pr) (sub (codeOf Try.f5) [1, 1, 1, 1, 1, 1, 1, 1, 1, 1, 1, 1, 1, 1, 1, 1, 1, 0, 1, 0, 1, 1]) (q76 pr R) e w) e w) (q76 pr R) e w
def j16 (p_3 : Sl) (a_4 : Sl) (b_5 : Sl) (ok_6 : Bool) (t_16 : Sl) (u_17 : Sl) (three_18 : Bool) (f_21 : Sl) (list_22 : Sl) (want_23 : Sl) (t155 : Bool) : Env := [(3, Sl.v p_3), (4, Sl.v a_4), (5, Sl.v b_5), (6, .bool ok_6), (16, Sl.v t_16), (17, Sl.v u_17), (18, .bool three_18), (21, Sl.v f_21), (22, Sl.v list_22), (23, Sl.v want_23), (155, .bool t155)]
def j17 (p_3 : Sl) (a_4 : Sl) (b_5 : Sl) (ok_6 : Bool) (t_16 : Sl) (u_17 : Sl) (three_18 : Bool) (f_21 : Sl) (list_22 : Sl) (want_23 : Sl) : Env := [(3, Sl.v p_3), (4, Sl.v a_4), (5, Sl.v b_5), (6, .bool ok_6), (16, Sl.v t_16), (17, Sl.v u_17), (18, .bool three_18), (21, Sl.v f_21), (22, Sl.v list_22), (23, Sl.v want_23)]
def emb18 (p_3 : Sl) (a_4 : Sl) (b_5 : Sl) (ok_6 : Bool) (t_16 : Sl) (u_17 : Sl) (three_18 : Bool) (f_21 : Sl) (list_22 : Sl) (want_23 : Sl) (k_24 : Int) : Env := [(3, Sl.v p_3), (4, Sl.v a_4), (5, Sl.v b_5), (6, .bool ok_6), (16, Sl.v t_16), (17, Sl.v u_17), (18, .bool three_18), (21, Sl.v f_21), (22, Sl.v list_22), (23, Sl.v want_23), (24, vI k_24)]
def j21 (p_3 : Sl) (a_4 : Sl) (b_5 : Sl) (ok_6 : Bool) (t_16 : Sl) (u_17 : Sl) (three_18 : Bool) (f_21 : Sl) (list_22 : Sl) (want_23 : Sl) (k_24 : Int) (t189 : Bool) : Env := [(3, Sl.v p_3), (4, Sl.v a_4), (5, Sl.v b_5), (6, .bool ok_6), (16, Sl.v t_16), (17, Sl.v u_17), (18, .bool three_18), (21, Sl.v f_21), (22, Sl.v list_22), (23, Sl.v want_23), (24, vI k_24), (189, .bool t189)]
def j19 (p_3 : Sl) (a_4 : Sl) (b_5 : Sl) (ok_6 : Bool) (t_16 : Sl) (u_17 : Sl) (three_18 : Bool) (f_21 : Sl) (list_22 : Sl) (want_23 : Sl) (k_24 : Int) : Env := [(3, Sl.v p_3), (4, Sl.v a_4), (5, Sl.v b_5), (6, .bool ok_6), (16, Sl.v t_16), (17, Sl.v u_17), (18, .bool three_18), (21, Sl.v f_21), (22, Sl.v list_22), (23, Sl.v want_23), (24, vI k_24)]
def x0 (p_3 : Sl) (a_4 : Sl) (b_5 : Sl) (ok_6 : Bool) (t_16 : Sl) (u_17 : Sl) (three_18 : Bool) (f_21 : Sl) (list_22 : Sl) : Env := [(3, Sl.v p_3), (4, Sl.v a_4), (5, Sl.v b_5), (6, .bool ok_6), (16, Sl.v t_16), (17, Sl.v u_17), (18, .bool three_18), (21, Sl.v f_21), (22, Sl.v list_22)]
def j23 (p_3 : Sl) (a_4 : Sl) (b_5 : Sl) (ok_6 : Bool) (t_16 : Sl) (u_17 : Sl) (three_18 : Bool) (t199 : Bool) : Env := [(3, Sl.v p_3), (4, Sl.v a_4), (5, Sl.v b_5), (6, .bool ok_6), (16, Sl.v t_16), (17, Sl.v u_17), (18, .bool three_18), (199, .bool t199)]
def j24 (p_3 : Sl) (a_4 : Sl) (b_5 : Sl) (ok_6 : Bool) (t_16 : Sl) (u_17 : Sl) (three_18 : Bool) : Env := [(3, Sl.v p_3), (4, Sl.v a_4), (5, Sl.v b_5), (6, .bool ok_6), (16, Sl.v t_16), (17, Sl.v u_17), (18, .bool three_18)]
def j27 (p_3 : Sl) (a_4 : Sl) (b_5 : Sl) (ok_6 : Bool) (t213 : Bool) : Env := [(3, Sl.v p_3), (4, Sl.v a_4), (5, Sl.v b_5), (6, .bool ok_6), (213, .bool t213)]
def j28 (p_3 : Sl) (a_4 : Sl) (b_5 : Sl) (ok_6 : Bool) : Env := [(3, Sl.v p_3), (4, Sl.v a_4), (5, Sl.v b_5), (6, .bool ok_6)]
def S18 (pr : Prims) (Q : Exit → Env → World → Prop) : (Env → World → Prop) → Env → World → Prop := fun k e w => wpC pr PP cfg (DD pr) (sub (codeOf Try.f5) [1, 1, 1, 1, 1, 1, 1, 1, 1, 1, 1, 1, 1, 1, 1, 0, 1, 0, 0]) (fun ex e w => normQ ex (fun e' w' => k (Env.restr e' (lookN cfg.loops (keyOf (sub (codeOf Try.f5) [1, 1, 1, 1, 1, 1, 1, 1, 1, 1, 1, 1, 1, 1, 1, 0, 1, 0, 0])))) w') Q e w) e w
def J19 (pr : Prims) (p_3 : Sl) (a_4 : Sl) (b_5 : Sl) (ok_6 : Bool) (t_16 : Sl) (u_17 : Sl) (three_18 : Bool) (f_21 : Sl) (list_22 : Sl) (want_23 : Sl) (k_24 : Int) (w : World) (k : Env → World → Prop) (Q : Exit → Env → World → Prop) : Prop :=
  pr.seg (fun e w => wpC pr PP cfg (DD pr) (sub (codeOf Try.f5) [1, 1, 1, 1, 1, 1, 1, 1, 1, 1, 1, 1, 1, 1, 1, 0, 1, 0, 0, 1, 1]) (fun ex e w => normQ ex (fun e' w' => k (Env.restr e' (lookN cfg.loops (keyOf (sub (codeOf Try.f5) [1, 1, 1, 1, 1, 1, 1, 1, 1, 1, 1, 1, 1, 1, 1, 0, 1, 0, 0])))) w') Q e w) e w) (j19 p_3 a_4 b_5 ok_6 t_16 u_17 three_18 f_21 list_22 want_23 k_24) w
def J21 (pr : Prims) (p_3 : Sl) (a_4 : Sl) (b_5 : Sl) (ok_6 : Bool) (t_16 : Sl) (u_17 : Sl) (three_18 : Bool) (f_21 : Sl) (list_22 : Sl) (want_23 : Sl) (k_24 : Int) (t189 : Bool) (w : World) (k : Env → World → Prop) (Q : Exit → Env → World → Prop) : Prop :=
  pr.seg (fun e w => wpC pr PP cfg (DD pr) (sub (codeOf Try.f5) [1, 1, 1, 1, 1, 1, 1, 1, 1, 1, 1, 1, 1, 1, 1, 0, 1, 0, 0, 1, 0, 0, 1]) (q39 pr k Q) e w) (j21 p_3 a_4 b_5 ok_6 t_16 u_17 three_18 f_21 list_22 want_23 k_24 t189) w
def B18 (pr : Prims) (p_3 : Sl) (a_4 : Sl) (b_5 : Sl) (ok_6 : Bool) (t_16 : Sl) (u_17 : Sl) (three_18 : Bool) (f_21 : Sl) (list_22 : Sl) (want_23 : Sl) (k_24 : Int) (w : World) (k : Env → World → Prop) (Q : Exit → Env → World → Prop) : Prop :=
  S18 pr Q k (emb18 p_3 a_4 b_5 ok_6 t_16 u_17 three_18 f_21 list_22 want_23 k_24) w
def L18 (pr : Prims) (p_3 : Sl) (a_4 : Sl) (b_5 : Sl) (ok_6 : Bool) (t_16 : Sl) (u_17 : Sl) (three_18 : Bool) (f_21 : Sl) (list_22 : Sl) (want_23 : Sl) (k_24 : Int) (w : World) (Q : Exit → Env → World → Prop) : Prop :=
  pr.loop (S18 pr Q) (emb18 p_3 a_4 b_5 ok_6 t_16 u_17 three_18 f_21 list_22 want_23 k_24) w
def J28 (pr : Prims) (p_3 : Sl) (a_4 : Sl) (b_5 : Sl) (ok_6 : Bool) (w : World) (R : Ending → World → Prop) : Prop :=
  pr.seg (fun e w => wpC pr PP cfg (DD pr) (sub (codeOf Try.f5) [1, 1, 1, 1, 1, 1, 1, 1, 1, 1, 1, 1, 1, 1, 1, 1, 1, 1]) (retQ Try.f5.results.toList R) e w) (j28 p_3 a_4 b_5 ok_6) w
def J27 (pr : Prims) (p_3 : Sl) (a_4 : Sl) (b_5 : Sl) (ok_6 : Bool) (t213 : Bool) (w : World) (R : Ending → World → Prop) : Prop :=
  pr.seg (fun e w => wpC pr PP cfg (DD pr) (sub (codeOf Try.f5) [1, 1, 1, 1, 1, 1, 1, 1, 1, 1, 1, 1, 1, 1, 1, 1, 1, 0, 1, 0, 1, 1]) (q76 pr R) e w) (j27 p_3 a_4 b_5 ok_6 t213) w
def J24 (pr : Prims) (p_3 : Sl) (a_4 : Sl) (b_5 : Sl) (ok_6 : Bool) (t_16 : Sl) (u_17 : Sl) (three_18 : Bool) (w : World) (R : Ending → World → Prop) : Prop :=
  pr.seg (fun e w => wpC pr PP cfg (DD pr) (sub (codeOf Try.f5) [1, 1, 1, 1, 1, 1, 1, 1, 1, 1, 1, 1, 1, 1, 1, 1, 1]) (retQ Try.f5.results.toList R) e w) (j24 p_3 a_4 b_5 ok_6 t_16 u_17 three_18) w
def J23 (pr : Prims) (p_3 : Sl) (a_4 : Sl) (b_5 : Sl) (ok_6 : Bool) (t_16 : Sl) (u_17 : Sl) (three_18 : Bool) (t199 : Bool) (w : World) (R : Ending → World → Prop) : Prop :=
  pr.seg (fun e w => wpC pr PP cfg (DD pr) (sub (codeOf Try.f5) [1, 1, 1, 1, 1, 1, 1, 1, 1, 1, 1, 1, 1, 1, 1, 1, 0, 1]) (q72 pr R) e w) (j23 p_3 a_4 b_5 ok_6 t_16 u_17 three_18 t199) w
def J17 (pr : Prims) (p_3 : Sl) (a_4 : Sl) (b_5 : Sl) (ok_6 : Bool) (t_16 : Sl) (u_17 : Sl) (three_18 : Bool) (f_21 : Sl) (list_22 : Sl) (want_23 : Sl) (w : World) (R : Ending → World → Prop) : Prop :=
  pr.seg (fun e w => wpC pr PP cfg (DD pr) (sub (codeOf Try.f5) [1, 1, 1, 1, 1, 1, 1, 1, 1, 1, 1, 1, 1, 1, 1]) (retQ Try.f5.results.toList R) e w) (j17 p_3 a_4 b_5 ok_6 t_16 u_17 three_18 f_21 list_22 want_23) w
def J16 (pr : Prims) (p_3 : Sl) (a_4 : Sl) (b_5 : Sl) (ok_6 : Bool) (t_16 : Sl) (u_17 : Sl) (three_18 : Bool) (f_21 : Sl) (list_22 : Sl) (want_23 : Sl) (t155 : Bool) (w : World) (R : Ending → World → Prop) : Prop :=
  pr.seg (fun e w => wpC pr PP cfg (DD pr) (sub (codeOf Try.f5) [1, 1, 1, 1, 1, 1, 1, 1, 1, 1, 1, 1, 1, 1, 0, 1]) (q34 pr R) e w) (j16 p_3 a_4 b_5 ok_6 t_16 u_17 three_18 f_21 list_22 want_23 t155) w
def E (pr : Prims) (code_0 : Sl) (w : World) (R : Ending → World → Prop) : Prop :=
  wpC pr PP cfg (DD pr) (codeOf Try.f5) (retQ Try.f5.results.toList R) (argE 0 [Sl.v code_0]) w
theorem J19_gen (pr : Prims) (p_3 : Sl) (a_4 : Sl) (b_5 : Sl) (ok_6 : Bool) (t_16 : Sl) (u_17 : Sl) (three_18 : Bool) (f_21 : Sl) (list_22 : Sl) (want_23 : Sl) (k_24 : Int) (w : World) (k : Env → World → Prop) (Q : Exit → Env → World → Prop) : wpC pr PP cfg (DD pr) (sub (codeOf Try.f5) [1, 1, 1, 1, 1, 1, 1, 1, 1, 1, 1, 1, 1, 1, 1, 0, 1, 0, 0, 1, 1]) (fun ex e w => normQ ex (fun e' w' => k (Env.restr e' (lookN cfg.loops (keyOf (sub (codeOf Try.f5) [1, 1, 1, 1, 1, 1, 1, 1, 1, 1, 1, 1, 1, 1, 1, 0, 1, 0, 0])))) w') Q e w) (j19 p_3 a_4 b_5 ok_6 t_16 u_17 three_18 f_21 list_22 want_23 k_24) w = (
  k (emb18 p_3 a_4 b_5 ok_6 t_16 u_17 three_18 f_21 list_22 want_23 (w64 (k_24 + 1))) w) := by kernel_rfl
theorem J19_s (p_3 : Sl) (a_4 : Sl) (b_5 : Sl) (ok_6 : Bool) (t_16 : Sl) (u_17 : Sl) (three_18 : Bool) (f_21 : Sl) (list_22 : Sl) (want_23 : Sl) (k_24 : Int) (w : World) (k : Env → World → Prop) (Q : Exit → Env → World → Prop) : J19 std p_3 a_4 b_5 ok_6 t_16 u_17 three_18 f_21 list_22 want_23 k_24 w k Q = (
  k (emb18 p_3 a_4 b_5 ok_6 t_16 u_17 three_18 f_21 list_22 want_23 (w64 (k_24 + 1))) w) := J19_gen std p_3 a_4 b_5 ok_6 t_16 u_17 three_18 f_21 list_22 want_23 k_24 w k Q
theorem J21_gen (pr : Prims) (p_3 : Sl) (a_4 : Sl) (b_5 : Sl) (ok_6 : Bool) (t_16 : Sl) (u_17 : Sl) (three_18 : Bool) (f_21 : Sl) (list_22 : Sl) (want_23 : Sl) (k_24 : Int) (t189 : Bool) (w : World) (k : Env → World → Prop) (Q : Exit → Env → World → Prop) : wpC pr PP cfg (DD pr) (sub (codeOf Try.f5) [1, 1, 1, 1, 1, 1, 1, 1, 1, 1, 1, 1, 1, 1, 1, 0, 1, 0, 0, 1, 0, 0, 1]) (q39 pr k Q) (j21 p_3 a_4 b_5 ok_6 t_16 u_17 three_18 f_21 list_22 want_23 k_24 t189) w = (
  bif t189 then (
  Q .ret [(2, .bool false)] w)
  else (
  J19 pr p_3 a_4 b_5 ok_6 t_16 u_17 three_18 f_21 list_22 want_23 k_24 w k Q)) := by kernel_rfl
theorem J21_s (p_3 : Sl) (a_4 : Sl) (b_5 : Sl) (ok_6 : Bool) (t_16 : Sl) (u_17 : Sl) (three_18 : Bool) (f_21 : Sl) (list_22 : Sl) (want_23 : Sl) (k_24 : Int) (t189 : Bool) (w : World) (k : Env → World → Prop) (Q : Exit → Env → World → Prop) : J21 std p_3 a_4 b_5 ok_6 t_16 u_17 three_18 f_21 list_22 want_23 k_24 t189 w k Q = (
  bif t189 then (
  Q .ret [(2, .bool false)] w)
  else (
  J19 std p_3 a_4 b_5 ok_6 t_16 u_17 three_18 f_21 list_22 want_23 k_24 w k Q)) := J21_gen std p_3 a_4 b_5 ok_6 t_16 u_17 three_18 f_21 list_22 want_23 k_24 t189 w k Q
theorem B18_eq (pr : Prims) (p_3 : Sl) (a_4 : Sl) (b_5 : Sl) (ok_6 : Bool) (t_16 : Sl) (u_17 : Sl) (three_18 : Bool) (f_21 : Sl) (list_22 : Sl) (want_23 : Sl) (k_24 : Int) (w : World) (k : Env → World → Prop) (Q : Exit → Env → World → Prop) : B18 pr p_3 a_4 b_5 ok_6 t_16 u_17 three_18 f_21 list_22 want_23 k_24 w k Q = (
  bif decide (k_24 < (list_22.n : Int)) then (
  pr.drewAll w fun ω41 =>
  pr.idxK 1 list_22 k_24 fun (a42 : Addr) =>
  pr.idxK 1 want_23 k_24 fun (a43 : Addr) =>
  (pr.load1 .sl a42 ω41 fun (ξ44 : Sl) =>
  pr.load1 .sl a43 ω41 fun (ξ45 : Sl) =>
  pr.call1 .bool PP F.laws_sameLists #[Sl.v ξ44, Sl.v ξ45] ω41 fun (ρ46 : Bool) ω47 =>
  bif !ρ46 then (
  J21 pr p_3 a_4 b_5 ok_6 t_16 u_17 three_18 f_21 list_22 want_23 k_24 true ω47 k Q)
  else (
  pr.idxK 1 list_22 k_24 fun (a48 : Addr) =>
  pr.load1 .sl a48 ω47 fun (ξ49 : Sl) =>
  pr.call1 .bool PP F.impl_IsTableau #[Sl.v ξ49] ω47 fun (ρ50 : Bool) ω51 =>
  bif !ρ50 then (
  J21 pr p_3 a_4 b_5 ok_6 t_16 u_17 three_18 f_21 list_22 want_23 k_24 true ω51 k Q)
  else (
  pr.idxK 1 list_22 k_24 fun (a52 : Addr) =>
  pr.load1 .sl a52 ω51 fun (ξ53 : Sl) =>
  pr.call1 .sl PP F.impl_FormOf #[Sl.v ξ53] ω51 fun (ρ54 : Sl) ω55 =>
  pr.call1 .bool PP F.laws_sameInts #[Sl.v ρ54, Sl.v f_21] ω55 fun (ρ56 : Bool) ω57 =>
  J21 pr p_3 a_4 b_5 ok_6 t_16 u_17 three_18 f_21 list_22 want_23 k_24 (!ρ56) ω57 k Q))) ∧
  (pr.load1 .sl a43 ω41 fun (ξ58 : Sl) =>
  pr.load1 .sl a42 ω41 fun (ξ59 : Sl) =>
  pr.call1 .bool PP F.laws_sameLists #[Sl.v ξ59, Sl.v ξ58] ω41 fun (ρ60 : Bool) ω61 =>
  bif !ρ60 then (
  J21 pr p_3 a_4 b_5 ok_6 t_16 u_17 three_18 f_21 list_22 want_23 k_24 true ω61 k Q)
  else (
  pr.idxK 1 list_22 k_24 fun (a62 : Addr) =>
  pr.load1 .sl a62 ω61 fun (ξ63 : Sl) =>
  pr.call1 .bool PP F.impl_IsTableau #[Sl.v ξ63] ω61 fun (ρ64 : Bool) ω65 =>
  bif !ρ64 then (
  J21 pr p_3 a_4 b_5 ok_6 t_16 u_17 three_18 f_21 list_22 want_23 k_24 true ω65 k Q)
  else (
  pr.idxK 1 list_22 k_24 fun (a66 : Addr) =>
  pr.load1 .sl a66 ω65 fun (ξ67 : Sl) =>
  pr.call1 .sl PP F.impl_FormOf #[Sl.v ξ67] ω65 fun (ρ68 : Sl) ω69 =>
  pr.call1 .bool PP F.laws_sameInts #[Sl.v ρ68, Sl.v f_21] ω69 fun (ρ70 : Bool) ω71 =>
  J21 pr p_3 a_4 b_5 ok_6 t_16 u_17 three_18 f_21 list_22 want_23 k_24 (!ρ70) ω71 k Q))))
  else (
  Q (.exit 0) (x0 p_3 a_4 b_5 ok_6 t_16 u_17 three_18 f_21 list_22) w)) := by kernel_rfl
theorem B18_s (p_3 : Sl) (a_4 : Sl) (b_5 : Sl) (ok_6 : Bool) (t_16 : Sl) (u_17 : Sl) (three_18 : Bool) (f_21 : Sl) (list_22 : Sl) (want_23 : Sl) (k_24 : Int) (w : World) (k : Env → World → Prop) (Q : Exit → Env → World → Prop) : B18 std p_3 a_4 b_5 ok_6 t_16 u_17 three_18 f_21 list_22 want_23 k_24 w k Q = (
  bif decide (k_24 < (list_22.n : Int)) then (
  drewAll w fun ω41 =>
  idxK 1 list_22 k_24 fun (a42 : Addr) =>
  idxK 1 want_23 k_24 fun (a43 : Addr) =>
  (load1 .sl a42 ω41 fun (ξ44 : Sl) =>
  load1 .sl a43 ω41 fun (ξ45 : Sl) =>
  call1 .bool PP F.laws_sameLists #[Sl.v ξ44, Sl.v ξ45] ω41 fun (ρ46 : Bool) ω47 =>
  bif !ρ46 then (
  J21 std p_3 a_4 b_5 ok_6 t_16 u_17 three_18 f_21 list_22 want_23 k_24 true ω47 k Q)
  else (
  idxK 1 list_22 k_24 fun (a48 : Addr) =>
  load1 .sl a48 ω47 fun (ξ49 : Sl) =>
  call1 .bool PP F.impl_IsTableau #[Sl.v ξ49] ω47 fun (ρ50 : Bool) ω51 =>
  bif !ρ50 then (
  J21 std p_3 a_4 b_5 ok_6 t_16 u_17 three_18 f_21 list_22 want_23 k_24 true ω51 k Q)
  else (
  idxK 1 list_22 k_24 fun (a52 : Addr) =>
  load1 .sl a52 ω51 fun (ξ53 : Sl) =>
  call1 .sl PP F.impl_FormOf #[Sl.v ξ53] ω51 fun (ρ54 : Sl) ω55 =>
  call1 .bool PP F.laws_sameInts #[Sl.v ρ54, Sl.v f_21] ω55 fun (ρ56 : Bool) ω57 =>
  J21 std p_3 a_4 b_5 ok_6 t_16 u_17 three_18 f_21 list_22 want_23 k_24 (!ρ56) ω57 k Q))) ∧
  (load1 .sl a43 ω41 fun (ξ58 : Sl) =>
  load1 .sl a42 ω41 fun (ξ59 : Sl) =>
  call1 .bool PP F.laws_sameLists #[Sl.v ξ59, Sl.v ξ58] ω41 fun (ρ60 : Bool) ω61 =>
  bif !ρ60 then (
  J21 std p_3 a_4 b_5 ok_6 t_16 u_17 three_18 f_21 list_22 want_23 k_24 true ω61 k Q)
  else (
  idxK 1 list_22 k_24 fun (a62 : Addr) =>
  load1 .sl a62 ω61 fun (ξ63 : Sl) =>
  call1 .bool PP F.impl_IsTableau #[Sl.v ξ63] ω61 fun (ρ64 : Bool) ω65 =>
  bif !ρ64 then (
  J21 std p_3 a_4 b_5 ok_6 t_16 u_17 three_18 f_21 list_22 want_23 k_24 true ω65 k Q)
  else (
  idxK 1 list_22 k_24 fun (a66 : Addr) =>
  load1 .sl a66 ω65 fun (ξ67 : Sl) =>
  call1 .sl PP F.impl_FormOf #[Sl.v ξ67] ω65 fun (ρ68 : Sl) ω69 =>
  call1 .bool PP F.laws_sameInts #[Sl.v ρ68, Sl.v f_21] ω69 fun (ρ70 : Bool) ω71 =>
  J21 std p_3 a_4 b_5 ok_6 t_16 u_17 three_18 f_21 list_22 want_23 k_24 (!ρ70) ω71 k Q))))
  else (
  Q (.exit 0) (x0 p_3 a_4 b_5 ok_6 t_16 u_17 three_18 f_21 list_22) w)) := B18_eq std p_3 a_4 b_5 ok_6 t_16 u_17 three_18 f_21 list_22 want_23 k_24 w k Q
theorem L18_rule (p_3 : Sl) (a_4 : Sl) (b_5 : Sl) (ok_6 : Bool) (t_16 : Sl) (u_17 : Sl) (three_18 : Bool) (f_21 : Sl) (list_22 : Sl) (want_23 : Sl) (k_24 : Int) (w : World) (Q : Exit → Env → World → Prop) (I : Int → World → Prop) (μ : Int → World → Nat) (h0 : I k_24 w)
    (h : ∀ (k_24 : Int) (w' : World), I k_24 w' → B18 std p_3 a_4 b_5 ok_6 t_16 u_17 three_18 f_21 list_22 want_23 k_24 w' (fun e2 w2 => ∃ k_24_n, e2 = emb18 p_3 a_4 b_5 ok_6 t_16 u_17 three_18 f_21 list_22 want_23 k_24_n ∧ I k_24_n w2 ∧ μ k_24_n w2 < μ k_24 w') Q) :
    L18 std p_3 a_4 b_5 ok_6 t_16 u_17 three_18 f_21 list_22 want_23 k_24 w Q := by
  unfold L18
  refine LoopE.intro (σ := Int) (step := S18 std Q) (fun s => emb18 p_3 a_4 b_5 ok_6 t_16 u_17 three_18 f_21 list_22 want_23 s) (fun s w => I s w) (fun s w => μ s w) k_24 rfl h0 ?_
  intro s w' hI
  have h1 := h s w' hI
  unfold B18 at h1
  exact h1
theorem J28_gen (pr : Prims) (p_3 : Sl) (a_4 : Sl) (b_5 : Sl) (ok_6 : Bool) (w : World) (R : Ending → World → Prop) : wpC pr PP cfg (DD pr) (sub (codeOf Try.f5) [1, 1, 1, 1, 1, 1, 1, 1, 1, 1, 1, 1, 1, 1, 1, 1, 1, 1]) (retQ Try.f5.results.toList R) (j28 p_3 a_4 b_5 ok_6) w = (
  bif !ok_6 then (
  R (.returned (.bool true)) w)
  else (
  pr.call2 .sl .bool PP F.impl_PermOfTableaux #[Sl.v a_4, Sl.v b_5] w fun (ρ81 : Sl) (ρ82 : Bool) ω83 =>
  pr.call2 .sl .bool PP F.spec_InversePerm #[Sl.v p_3] ω83 fun (ρ84 : Sl) (ρ85 : Bool) ω86 =>
  pr.call3 .sl .sl .bool PP F.impl_InsertPerm #[Sl.v ρ84] ω86 fun (ρ87 : Sl) (ρ88 : Sl) (ρ89 : Bool) ω90 =>
  pr.call1 .sl PP F.spec_ReversePerm #[Sl.v p_3] ω90 fun (ρ91 : Sl) ω92 =>
  pr.call3 .sl .sl .bool PP F.impl_InsertPerm #[Sl.v ρ91] ω92 fun (ρ93 : Sl) (ρ94 : Sl) (ρ95 : Bool) ω96 =>
  pr.call2 .sl .bool PP F.impl_TurnTableau #[Sl.v a_4] ω96 fun (ρ97 : Sl) (ρ98 : Bool) ω99 =>
  bif ρ82 then (
  pr.call1 .bool PP F.laws_sameInts #[Sl.v ρ81, Sl.v p_3] ω99 fun (ρ100 : Bool) ω101 =>
  bif ρ100 then (
  bif ρ89 then (
  pr.call1 .bool PP F.laws_sameLists #[Sl.v ρ87, Sl.v b_5] ω101 fun (ρ102 : Bool) ω103 =>
  bif ρ102 then (
  pr.call1 .bool PP F.laws_sameLists #[Sl.v ρ88, Sl.v a_4] ω103 fun (ρ104 : Bool) ω105 =>
  bif ρ104 then (
  bif ρ95 then (
  bif ρ98 then (
  pr.call1 .bool PP F.laws_sameLists #[Sl.v ρ93, Sl.v ρ97] ω105 fun (ρ106 : Bool) ω107 =>
  R (.returned (.bool ρ106)) ω107)
  else (
  R (.returned (.bool false)) ω105))
  else (
  R (.returned (.bool false)) ω105))
  else (
  R (.returned (.bool false)) ω105))
  else (
  R (.returned (.bool false)) ω103))
  else (
  R (.returned (.bool false)) ω101))
  else (
  R (.returned (.bool false)) ω101))
  else (
  R (.returned (.bool false)) ω99))) := by kernel_rfl
theorem J28_s (p_3 : Sl) (a_4 : Sl) (b_5 : Sl) (ok_6 : Bool) (w : World) (R : Ending → World → Prop) : J28 std p_3 a_4 b_5 ok_6 w R = (
  bif !ok_6 then (
  R (.returned (.bool true)) w)
  else (
  call2 .sl .bool PP F.impl_PermOfTableaux #[Sl.v a_4, Sl.v b_5] w fun (ρ81 : Sl) (ρ82 : Bool) ω83 =>
  call2 .sl .bool PP F.spec_InversePerm #[Sl.v p_3] ω83 fun (ρ84 : Sl) (ρ85 : Bool) ω86 =>
  call3 .sl .sl .bool PP F.impl_InsertPerm #[Sl.v ρ84] ω86 fun (ρ87 : Sl) (ρ88 : Sl) (ρ89 : Bool) ω90 =>
  call1 .sl PP F.spec_ReversePerm #[Sl.v p_3] ω90 fun (ρ91 : Sl) ω92 =>
  call3 .sl .sl .bool PP F.impl_InsertPerm #[Sl.v ρ91] ω92 fun (ρ93 : Sl) (ρ94 : Sl) (ρ95 : Bool) ω96 =>
  call2 .sl .bool PP F.impl_TurnTableau #[Sl.v a_4] ω96 fun (ρ97 : Sl) (ρ98 : Bool) ω99 =>
  bif ρ82 then (
  call1 .bool PP F.laws_sameInts #[Sl.v ρ81, Sl.v p_3] ω99 fun (ρ100 : Bool) ω101 =>
  bif ρ100 then (
  bif ρ89 then (
  call1 .bool PP F.laws_sameLists #[Sl.v ρ87, Sl.v b_5] ω101 fun (ρ102 : Bool) ω103 =>
  bif ρ102 then (
  call1 .bool PP F.laws_sameLists #[Sl.v ρ88, Sl.v a_4] ω103 fun (ρ104 : Bool) ω105 =>
  bif ρ104 then (
  bif ρ95 then (
  bif ρ98 then (
  call1 .bool PP F.laws_sameLists #[Sl.v ρ93, Sl.v ρ97] ω105 fun (ρ106 : Bool) ω107 =>
  R (.returned (.bool ρ106)) ω107)
  else (
  R (.returned (.bool false)) ω105))
  else (
  R (.returned (.bool false)) ω105))
  else (
  R (.returned (.bool false)) ω105))
  else (
  R (.returned (.bool false)) ω103))
  else (
  R (.returned (.bool false)) ω101))
  else (
  R (.returned (.bool false)) ω101))
  else (
  R (.returned (.bool false)) ω99))) := J28_gen std p_3 a_4 b_5 ok_6 w R
theorem J27_gen (pr : Prims) (p_3 : Sl) (a_4 : Sl) (b_5 : Sl) (ok_6 : Bool) (t213 : Bool) (w : World) (R : Ending → World → Prop) : wpC pr PP cfg (DD pr) (sub (codeOf Try.f5) [1, 1, 1, 1, 1, 1, 1, 1, 1, 1, 1, 1, 1, 1, 1, 1, 1, 0, 1, 0, 1, 1]) (q76 pr R) (j27 p_3 a_4 b_5 ok_6 t213) w = (
  bif t213 then (
  R (.returned (.bool false)) w)
  else (
  J28 pr p_3 a_4 b_5 ok_6 w R)) := by kernel_rfl
theorem J27_s (p_3 : Sl) (a_4 : Sl) (b_5 : Sl) (ok_6 : Bool) (t213 : Bool) (w : World) (R : Ending → World → Prop) : J27 std p_3 a_4 b_5 ok_6 t213 w R = (
  bif t213 then (
  R (.returned (.bool false)) w)
  else (
  J28 std p_3 a_4 b_5 ok_6 w R)) := J27_gen std p_3 a_4 b_5 ok_6 t213 w R
theorem J24_gen (pr : Prims) (p_3 : Sl) (a_4 : Sl) (b_5 : Sl) (ok_6 : Bool) (t_16 : Sl) (u_17 : Sl) (three_18 : Bool) (w : World) (R : Ending → World → Prop) : wpC pr PP cfg (DD pr) (sub (codeOf Try.f5) [1, 1, 1, 1, 1, 1, 1, 1, 1, 1, 1, 1, 1, 1, 1, 1, 1]) (retQ Try.f5.results.toList R) (j24 p_3 a_4 b_5 ok_6 t_16 u_17 three_18) w = (
  bif three_18 then (
  pr.call2 .sl .bool PP F.impl_TurnTableau #[Sl.v u_17] w fun (ρ77 : Sl) (ρ78 : Bool) ω79 =>
  bif !ρ78 then (
  J27 pr p_3 a_4 b_5 ok_6 true ω79 R)
  else (
  pr.call1 .bool PP F.laws_sameLists #[Sl.v ρ77, Sl.v t_16] ω79 fun (ρ108 : Bool) ω109 =>
  J27 pr p_3 a_4 b_5 ok_6 (!ρ108) ω109 R))
  else (
  J28 pr p_3 a_4 b_5 ok_6 w R)) := by kernel_rfl
theorem J24_s (p_3 : Sl) (a_4 : Sl) (b_5 : Sl) (ok_6 : Bool) (t_16 : Sl) (u_17 : Sl) (three_18 : Bool) (w : World) (R : Ending → World → Prop) : J24 std p_3 a_4 b_5 ok_6 t_16 u_17 three_18 w R = (
  bif three_18 then (
  call2 .sl .bool PP F.impl_TurnTableau #[Sl.v u_17] w fun (ρ77 : Sl) (ρ78 : Bool) ω79 =>
  bif !ρ78 then (
  J27 std p_3 a_4 b_5 ok_6 true ω79 R)
  else (
  call1 .bool PP F.laws_sameLists #[Sl.v ρ77, Sl.v t_16] ω79 fun (ρ108 : Bool) ω109 =>
  J27 std p_3 a_4 b_5 ok_6 (!ρ108) ω109 R))
  else (
  J28 std p_3 a_4 b_5 ok_6 w R)) := J24_gen std p_3 a_4 b_5 ok_6 t_16 u_17 three_18 w R
theorem J23_gen (pr : Prims) (p_3 : Sl) (a_4 : Sl) (b_5 : Sl) (ok_6 : Bool) (t_16 : Sl) (u_17 : Sl) (three_18 : Bool) (t199 : Bool) (w : World) (R : Ending → World → Prop) : wpC pr PP cfg (DD pr) (sub (codeOf Try.f5) [1, 1, 1, 1, 1, 1, 1, 1, 1, 1, 1, 1, 1, 1, 1, 1, 0, 1]) (q72 pr R) (j23 p_3 a_4 b_5 ok_6 t_16 u_17 three_18 t199) w = (
  bif t199 then (
  R (.returned (.bool false)) w)
  else (
  J24 pr p_3 a_4 b_5 ok_6 t_16 u_17 three_18 w R)) := by kernel_rfl
theorem J23_s (p_3 : Sl) (a_4 : Sl) (b_5 : Sl) (ok_6 : Bool) (t_16 : Sl) (u_17 : Sl) (three_18 : Bool) (t199 : Bool) (w : World) (R : Ending → World → Prop) : J23 std p_3 a_4 b_5 ok_6 t_16 u_17 three_18 t199 w R = (
  bif t199 then (
  R (.returned (.bool false)) w)
  else (
  J24 std p_3 a_4 b_5 ok_6 t_16 u_17 three_18 w R)) := J23_gen std p_3 a_4 b_5 ok_6 t_16 u_17 three_18 t199 w R
theorem A18_0_eq (pr : Prims) (p_3 : Sl) (a_4 : Sl) (b_5 : Sl) (ok_6 : Bool) (t_16 : Sl) (u_17 : Sl) (three_18 : Bool) (f_21 : Sl) (list_22 : Sl) (w : World) (R : Ending → World → Prop) : (q37 pr R) (.exit 0) (x0 p_3 a_4 b_5 ok_6 t_16 u_17 three_18 f_21 list_22) w = (
  bif decide ((list_22.n : Int) > 0) then (
  pr.call1 (.int .i64) PP F.impl_CountTableaux #[Sl.v f_21] w fun (ρ74 : Int) ω75 =>
  J23 pr p_3 a_4 b_5 ok_6 t_16 u_17 three_18 ((list_22.n : Int) != ρ74) ω75 R)
  else (
  J23 pr p_3 a_4 b_5 ok_6 t_16 u_17 three_18 false w R)) := by kernel_rfl
theorem A18_0_s (p_3 : Sl) (a_4 : Sl) (b_5 : Sl) (ok_6 : Bool) (t_16 : Sl) (u_17 : Sl) (three_18 : Bool) (f_21 : Sl) (list_22 : Sl) (w : World) (R : Ending → World → Prop) : (q37 std R) (.exit 0) (x0 p_3 a_4 b_5 ok_6 t_16 u_17 three_18 f_21 list_22) w = (
  bif decide ((list_22.n : Int) > 0) then (
  call1 (.int .i64) PP F.impl_CountTableaux #[Sl.v f_21] w fun (ρ74 : Int) ω75 =>
  J23 std p_3 a_4 b_5 ok_6 t_16 u_17 three_18 ((list_22.n : Int) != ρ74) ω75 R)
  else (
  J23 std p_3 a_4 b_5 ok_6 t_16 u_17 three_18 false w R)) := A18_0_eq std p_3 a_4 b_5 ok_6 t_16 u_17 three_18 f_21 list_22 w R
theorem R18_eq (pr : Prims) (v2 : Value) (w : World) (R : Ending → World → Prop) : (q37 pr R) .ret [(2, v2)] w = (
  R (.returned (v2)) w) := by kernel_rfl
theorem R18_s (v2 : Value) (w : World) (R : Ending → World → Prop) : (q37 std R) .ret [(2, v2)] w = (
  R (.returned (v2)) w) := R18_eq std v2 w R
theorem J17_gen (pr : Prims) (p_3 : Sl) (a_4 : Sl) (b_5 : Sl) (ok_6 : Bool) (t_16 : Sl) (u_17 : Sl) (three_18 : Bool) (f_21 : Sl) (list_22 : Sl) (want_23 : Sl) (w : World) (R : Ending → World → Prop) : wpC pr PP cfg (DD pr) (sub (codeOf Try.f5) [1, 1, 1, 1, 1, 1, 1, 1, 1, 1, 1, 1, 1, 1, 1]) (retQ Try.f5.results.toList R) (j17 p_3 a_4 b_5 ok_6 t_16 u_17 three_18 f_21 list_22 want_23) w = (
  L18 pr p_3 a_4 b_5 ok_6 t_16 u_17 three_18 f_21 list_22 want_23 0 w (q37 pr R)) := by kernel_rfl
theorem J17_s (p_3 : Sl) (a_4 : Sl) (b_5 : Sl) (ok_6 : Bool) (t_16 : Sl) (u_17 : Sl) (three_18 : Bool) (f_21 : Sl) (list_22 : Sl) (want_23 : Sl) (w : World) (R : Ending → World → Prop) : J17 std p_3 a_4 b_5 ok_6 t_16 u_17 three_18 f_21 list_22 want_23 w R = (
  L18 std p_3 a_4 b_5 ok_6 t_16 u_17 three_18 f_21 list_22 want_23 0 w (q37 std R)) := J17_gen std p_3 a_4 b_5 ok_6 t_16 u_17 three_18 f_21 list_22 want_23 w R
theorem J16_gen (pr : Prims) (p_3 : Sl) (a_4 : Sl) (b_5 : Sl) (ok_6 : Bool) (t_16 : Sl) (u_17 : Sl) (three_18 : Bool) (f_21 : Sl) (list_22 : Sl) (want_23 : Sl) (t155 : Bool) (w : World) (R : Ending → World → Prop) : wpC pr PP cfg (DD pr) (sub (codeOf Try.f5) [1, 1, 1, 1, 1, 1, 1, 1, 1, 1, 1, 1, 1, 1, 0, 1]) (q34 pr R) (j16 p_3 a_4 b_5 ok_6 t_16 u_17 three_18 f_21 list_22 want_23 t155) w = (
  bif t155 then (
  R (.returned (.bool false)) w)
  else (
  J17 pr p_3 a_4 b_5 ok_6 t_16 u_17 three_18 f_21 list_22 want_23 w R)) := by kernel_rfl
theorem J16_s (p_3 : Sl) (a_4 : Sl) (b_5 : Sl) (ok_6 : Bool) (t_16 : Sl) (u_17 : Sl) (three_18 : Bool) (f_21 : Sl) (list_22 : Sl) (want_23 : Sl) (t155 : Bool) (w : World) (R : Ending → World → Prop) : J16 std p_3 a_4 b_5 ok_6 t_16 u_17 three_18 f_21 list_22 want_23 t155 w R = (
  bif t155 then (
  R (.returned (.bool false)) w)
  else (
  J17 std p_3 a_4 b_5 ok_6 t_16 u_17 three_18 f_21 list_22 want_23 w R)) := J16_gen std p_3 a_4 b_5 ok_6 t_16 u_17 three_18 f_21 list_22 want_23 t155 w R
theorem E_eq (pr : Prims) (code_0 : Sl) (w : World) (R : Ending → World → Prop) : E pr code_0 w R = (
  pr.pcall1 .bool PP F.laws_big #[Sl.v code_0] fun (ρ0 : Bool) =>
  bif ρ0 then (
  R (.returned (.bool true)) w)
  else (
  pr.call1 .sl PP F.spec_DrawInsertPerm #[Sl.v code_0] w fun (ρ1 : Sl) ω2 =>
  pr.call3 .sl .sl .bool PP F.impl_InsertPerm #[Sl.v ρ1] ω2 fun (ρ3 : Sl) (ρ4 : Sl) (ρ5 : Bool) ω6 =>
  pr.call3 .sl .sl .bool PP F.spec_InsertPerm #[Sl.v ρ1] ω6 fun (ρ7 : Sl) (ρ8 : Sl) (ρ9 : Bool) ω10 =>
  pr.call2 .sl .sl PP F.spec_DrawPermOfTableaux #[Sl.v code_0] ω10 fun (ρ11 : Sl) (ρ12 : Sl) ω13 =>
  pr.call2 .sl .bool PP F.impl_PermOfTableaux #[Sl.v ρ11, Sl.v ρ12] ω13 fun (ρ14 : Sl) (ρ15 : Bool) ω16 =>
  pr.call2 .sl .bool PP F.spec_PermOfTableaux #[Sl.v ρ11, Sl.v ρ12] ω16 fun (ρ17 : Sl) (ρ18 : Bool) ω19 =>
  pr.call1 .sl PP F.spec_DrawTurnTableau #[Sl.v code_0] ω19 fun (ρ20 : Sl) ω21 =>
  pr.call2 .sl .bool PP F.impl_TurnTableau #[Sl.v ρ20] ω21 fun (ρ22 : Sl) (ρ23 : Bool) ω24 =>
  pr.call2 .sl .bool PP F.spec_TurnTableau #[Sl.v ρ20] ω24 fun (ρ25 : Sl) (ρ26 : Bool) ω27 =>
  pr.call1 .sl PP F.spec_DrawTableauxOf #[Sl.v code_0] ω27 fun (ρ28 : Sl) ω29 =>
  pr.call1 .sl PP F.impl_TableauxOf #[Sl.v ρ28] ω29 fun (ρ30 : Sl) ω31 =>
  pr.call1 .sl PP F.spec_TableauxOf #[Sl.v ρ28] ω31 fun (ρ32 : Sl) ω33 =>
  bif !(ρ5 == ρ9) then (
  J16 pr ρ1 ρ3 ρ4 ρ5 ρ20 ρ22 ρ23 ρ28 ρ30 ρ32 true ω33 R)
  else (
  pr.call1 .bool PP F.laws_sameLists #[Sl.v ρ3, Sl.v ρ7] ω33 fun (ρ110 : Bool) ω111 =>
  bif !ρ110 then (
  J16 pr ρ1 ρ3 ρ4 ρ5 ρ20 ρ22 ρ23 ρ28 ρ30 ρ32 true ω111 R)
  else (
  pr.call1 .bool PP F.laws_sameLists #[Sl.v ρ4, Sl.v ρ8] ω111 fun (ρ112 : Bool) ω113 =>
  bif !ρ112 then (
  J16 pr ρ1 ρ3 ρ4 ρ5 ρ20 ρ22 ρ23 ρ28 ρ30 ρ32 true ω113 R)
  else (
  bif !(ρ15 == ρ18) then (
  J16 pr ρ1 ρ3 ρ4 ρ5 ρ20 ρ22 ρ23 ρ28 ρ30 ρ32 true ω113 R)
  else (
  pr.call1 .bool PP F.laws_sameInts #[Sl.v ρ14, Sl.v ρ17] ω113 fun (ρ114 : Bool) ω115 =>
  bif !ρ114 then (
  J16 pr ρ1 ρ3 ρ4 ρ5 ρ20 ρ22 ρ23 ρ28 ρ30 ρ32 true ω115 R)
  else (
  bif !(ρ23 == ρ26) then (
  J16 pr ρ1 ρ3 ρ4 ρ5 ρ20 ρ22 ρ23 ρ28 ρ30 ρ32 true ω115 R)
  else (
  pr.call1 .bool PP F.laws_sameLists #[Sl.v ρ22, Sl.v ρ25] ω115 fun (ρ116 : Bool) ω117 =>
  bif !ρ116 then (
  J16 pr ρ1 ρ3 ρ4 ρ5 ρ20 ρ22 ρ23 ρ28 ρ30 ρ32 true ω117 R)
  else (
  bif (ρ30.n : Int) != (ρ32.n : Int) then (
  J16 pr ρ1 ρ3 ρ4 ρ5 ρ20 ρ22 ρ23 ρ28 ρ30 ρ32 true ω117 R)
  else (
  pr.call1 (.int .i64) PP F.impl_CountTableaux #[Sl.v ρ28] ω117 fun (ρ118 : Int) ω119 =>
  pr.call1 (.int .i64) PP F.spec_CountTableaux #[Sl.v ρ28] ω119 fun (ρ120 : Int) ω121 =>
  bif ρ118 != ρ120 then (
  J16 pr ρ1 ρ3 ρ4 ρ5 ρ20 ρ22 ρ23 ρ28 ρ30 ρ32 true ω121 R)
  else (
  pr.call1 .bool PP F.impl_IsTableau #[Sl.v ρ20] ω121 fun (ρ122 : Bool) ω123 =>
  pr.call1 .bool PP F.spec_IsTableau #[Sl.v ρ20] ω123 fun (ρ124 : Bool) ω125 =>
  bif !(ρ122 == ρ124) then (
  J16 pr ρ1 ρ3 ρ4 ρ5 ρ20 ρ22 ρ23 ρ28 ρ30 ρ32 true ω125 R)
  else (
  pr.call1 .sl PP F.impl_FormOf #[Sl.v ρ20] ω125 fun (ρ126 : Sl) ω127 =>
  pr.call1 .sl PP F.spec_FormOf #[Sl.v ρ20] ω127 fun (ρ128 : Sl) ω129 =>
  pr.call1 .bool PP F.laws_sameInts #[Sl.v ρ126, Sl.v ρ128] ω129 fun (ρ130 : Bool) ω131 =>
  J16 pr ρ1 ρ3 ρ4 ρ5 ρ20 ρ22 ρ23 ρ28 ρ30 ρ32 (!ρ130) ω131 R)))))))))))) := by kernel_rfl
theorem E_s (code_0 : Sl) (w : World) (R : Ending → World → Prop) : E std code_0 w R = (
  pcall1 .bool PP F.laws_big #[Sl.v code_0] fun (ρ0 : Bool) =>
  bif ρ0 then (
  R (.returned (.bool true)) w)
  else (
  call1 .sl PP F.spec_DrawInsertPerm #[Sl.v code_0] w fun (ρ1 : Sl) ω2 =>
  call3 .sl .sl .bool PP F.impl_InsertPerm #[Sl.v ρ1] ω2 fun (ρ3 : Sl) (ρ4 : Sl) (ρ5 : Bool) ω6 =>
  call3 .sl .sl .bool PP F.spec_InsertPerm #[Sl.v ρ1] ω6 fun (ρ7 : Sl) (ρ8 : Sl) (ρ9 : Bool) ω10 =>
  call2 .sl .sl PP F.spec_DrawPermOfTableaux #[Sl.v code_0] ω10 fun (ρ11 : Sl) (ρ12 : Sl) ω13 =>
  call2 .sl .bool PP F.impl_PermOfTableaux #[Sl.v ρ11, Sl.v ρ12] ω13 fun (ρ14 : Sl) (ρ15 : Bool) ω16 =>
  call2 .sl .bool PP F.spec_PermOfTableaux #[Sl.v ρ11, Sl.v ρ12] ω16 fun (ρ17 : Sl) (ρ18 : Bool) ω19 =>
  call1 .sl PP F.spec_DrawTurnTableau #[Sl.v code_0] ω19 fun (ρ20 : Sl) ω21 =>
  call2 .sl .bool PP F.impl_TurnTableau #[Sl.v ρ20] ω21 fun (ρ22 : Sl) (ρ23 : Bool) ω24 =>
  call2 .sl .bool PP F.spec_TurnTableau #[Sl.v ρ20] ω24 fun (ρ25 : Sl) (ρ26 : Bool) ω27 =>
  call1 .sl PP F.spec_DrawTableauxOf #[Sl.v code_0] ω27 fun (ρ28 : Sl) ω29 =>
  call1 .sl PP F.impl_TableauxOf #[Sl.v ρ28] ω29 fun (ρ30 : Sl) ω31 =>
  call1 .sl PP F.spec_TableauxOf #[Sl.v ρ28] ω31 fun (ρ32 : Sl) ω33 =>
  bif !(ρ5 == ρ9) then (
  J16 std ρ1 ρ3 ρ4 ρ5 ρ20 ρ22 ρ23 ρ28 ρ30 ρ32 true ω33 R)
  else (
  call1 .bool PP F.laws_sameLists #[Sl.v ρ3, Sl.v ρ7] ω33 fun (ρ110 : Bool) ω111 =>
  bif !ρ110 then (
  J16 std ρ1 ρ3 ρ4 ρ5 ρ20 ρ22 ρ23 ρ28 ρ30 ρ32 true ω111 R)
  else (
  call1 .bool PP F.laws_sameLists #[Sl.v ρ4, Sl.v ρ8] ω111 fun (ρ112 : Bool) ω113 =>
  bif !ρ112 then (
  J16 std ρ1 ρ3 ρ4 ρ5 ρ20 ρ22 ρ23 ρ28 ρ30 ρ32 true ω113 R)
  else (
  bif !(ρ15 == ρ18) then (
  J16 std ρ1 ρ3 ρ4 ρ5 ρ20 ρ22 ρ23 ρ28 ρ30 ρ32 true ω113 R)
  else (
  call1 .bool PP F.laws_sameInts #[Sl.v ρ14, Sl.v ρ17] ω113 fun (ρ114 : Bool) ω115 =>
  bif !ρ114 then (
  J16 std ρ1 ρ3 ρ4 ρ5 ρ20 ρ22 ρ23 ρ28 ρ30 ρ32 true ω115 R)
  else (
  bif !(ρ23 == ρ26) then (
  J16 std ρ1 ρ3 ρ4 ρ5 ρ20 ρ22 ρ23 ρ28 ρ30 ρ32 true ω115 R)
  else (
  call1 .bool PP F.laws_sameLists #[Sl.v ρ22, Sl.v ρ25] ω115 fun (ρ116 : Bool) ω117 =>
  bif !ρ116 then (
  J16 std ρ1 ρ3 ρ4 ρ5 ρ20 ρ22 ρ23 ρ28 ρ30 ρ32 true ω117 R)
  else (
  bif (ρ30.n : Int) != (ρ32.n : Int) then (
  J16 std ρ1 ρ3 ρ4 ρ5 ρ20 ρ22 ρ23 ρ28 ρ30 ρ32 true ω117 R)
  else (
  call1 (.int .i64) PP F.impl_CountTableaux #[Sl.v ρ28] ω117 fun (ρ118 : Int) ω119 =>
  call1 (.int .i64) PP F.spec_CountTableaux #[Sl.v ρ28] ω119 fun (ρ120 : Int) ω121 =>
  bif ρ118 != ρ120 then (
  J16 std ρ1 ρ3 ρ4 ρ5 ρ20 ρ22 ρ23 ρ28 ρ30 ρ32 true ω121 R)
  else (
  call1 .bool PP F.impl_IsTableau #[Sl.v ρ20] ω121 fun (ρ122 : Bool) ω123 =>
  call1 .bool PP F.spec_IsTableau #[Sl.v ρ20] ω123 fun (ρ124 : Bool) ω125 =>
  bif !(ρ122 == ρ124) then (
  J16 std ρ1 ρ3 ρ4 ρ5 ρ20 ρ22 ρ23 ρ28 ρ30 ρ32 true ω125 R)
  else (
  call1 .sl PP F.impl_FormOf #[Sl.v ρ20] ω125 fun (ρ126 : Sl) ω127 =>
  call1 .sl PP F.spec_FormOf #[Sl.v ρ20] ω127 fun (ρ128 : Sl) ω129 =>
  call1 .bool PP F.laws_sameInts #[Sl.v ρ126, Sl.v ρ128] ω129 fun (ρ130 : Bool) ω131 =>
  J16 std ρ1 ρ3 ρ4 ρ5 ρ20 ρ22 ρ23 ρ28 ρ30 ρ32 (!ρ130) ω131 R)))))))))))) := E_eq std code_0 w R
theorem drawsOk : drawsOk PP cfg okD (codeOf Try.f5) = true := by kernel_rfl
theorem calls (code_0 : Sl) {w : World} {R : Ending → World → Prop} (h : E std code_0 w R) : Calls PP F.laws_FnTableaux #[Sl.v code_0] w R :=
  calls_of noCount mixed drawOk Try.func5 rfl (c := cfg) (args := [Sl.v code_0]) rfl (Nat.le_of_ble_eq_true (by kernel_rfl)) drawsOk h
end laws_FnTableaux

namespace spec_DrawInsertPerm
@[reducible] def cfg : Cfg := ⟨6, [], [], [], [2], [], [101, 107, 112, 15, 21, 124, 76, 137, 28, 115, 91, 81, 130], [138, 140, 82, 6, 86, 85, 132]⟩
def E (pr : Prims) (code_0 : Sl) (w : World) (R : Ending → World → Prop) : Prop :=
  wpC pr PP cfg (DD pr) (codeOf Try.f47) (retQ Try.f47.results.toList R) (argE 0 [Sl.v code_0]) w
theorem E_eq (pr : Prims) (code_0 : Sl) (w : World) (R : Ending → World → Prop) : E pr code_0 w R = (
  pr.call1 .ptr PP F.spec_l1New #[Sl.v code_0] w fun (ρ0 : (Option Addr)) ω1 =>
  pr.call1 .sl PP F.spec_l2Bent #[.pointer ρ0] ω1 fun (ρ2 : Sl) ω3 =>
  R (.returned (Sl.v ρ2)) ω3) := by kernel_rfl
theorem E_s (code_0 : Sl) (w : World) (R : Ending → World → Prop) : E std code_0 w R = (
  call1 .ptr PP F.spec_l1New #[Sl.v code_0] w fun (ρ0 : (Option Addr)) ω1 =>
  call1 .sl PP F.spec_l2Bent #[.pointer ρ0] ω1 fun (ρ2 : Sl) ω3 =>
  R (.returned (Sl.v ρ2)) ω3) := E_eq std code_0 w R
theorem drawsOk : drawsOk PP cfg okD (codeOf Try.f47) = true := by kernel_rfl
theorem calls (code_0 : Sl) {w : World} {R : Ending → World → Prop} (h : E std code_0 w R) : Calls PP F.spec_DrawInsertPerm #[Sl.v code_0] w R :=
  calls_of noCount mixed drawOk Try.func47 rfl (c := cfg) (args := [Sl.v code_0]) rfl (Nat.le_of_ble_eq_true (by kernel_rfl)) drawsOk h
end spec_DrawInsertPerm

namespace spec_DrawPermOfTableaux
@[reducible] def cfg : Cfg := ⟨22, [], [], [], [2, 3], [], [101, 107, 112, 15, 21, 124, 76, 137, 28, 115, 91, 81, 130], [138, 140, 82, 6, 86, 85, 132]⟩
def E (pr : Prims) (code_0 : Sl) (w : World) (R : Ending → World → Prop) : Prop :=
  wpC pr PP cfg (DD pr) (codeOf Try.f49) (retQ Try.f49.results.toList R) (argE 0 [Sl.v code_0]) w
theorem E_eq (pr : Prims) (code_0 : Sl) (w : World) (R : Ending → World → Prop) : E pr code_0 w R = (
  pr.call1 .ptr PP F.spec_l1New #[Sl.v code_0] w fun (ρ0 : (Option Addr)) ω1 =>
  pr.call1 .sl PP F.spec_l2Any #[.pointer ρ0] ω1 fun (ρ2 : Sl) ω3 =>
  pr.call2 .sl .sl PP F.spec_l19Insert #[Sl.v ρ2] ω3 fun (ρ4 : Sl) (ρ5 : Sl) ω6 =>
  pr.call1 .bool PP F.spec_l1Once #[.pointer ρ0, vI 6] ω6 fun (ρ7 : Bool) ω8 =>
  bif ρ7 then (
  pr.call1 .sl PP F.spec_l19Draw #[.pointer ρ0] ω8 fun (ρ9 : Sl) ω10 =>
  R (.returned (.tuple #[Sl.v ρ9, Sl.v ρ5])) ω10)
  else (
  R (.returned (.tuple #[Sl.v ρ4, Sl.v ρ5])) ω8)) := by kernel_rfl
theorem E_s (code_0 : Sl) (w : World) (R : Ending → World → Prop) : E std code_0 w R = (
  call1 .ptr PP F.spec_l1New #[Sl.v code_0] w fun (ρ0 : (Option Addr)) ω1 =>
  call1 .sl PP F.spec_l2Any #[.pointer ρ0] ω1 fun (ρ2 : Sl) ω3 =>
  call2 .sl .sl PP F.spec_l19Insert #[Sl.v ρ2] ω3 fun (ρ4 : Sl) (ρ5 : Sl) ω6 =>
  call1 .bool PP F.spec_l1Once #[.pointer ρ0, vI 6] ω6 fun (ρ7 : Bool) ω8 =>
  bif ρ7 then (
  call1 .sl PP F.spec_l19Draw #[.pointer ρ0] ω8 fun (ρ9 : Sl) ω10 =>
  R (.returned (.tuple #[Sl.v ρ9, Sl.v ρ5])) ω10)
  else (
  R (.returned (.tuple #[Sl.v ρ4, Sl.v ρ5])) ω8)) := E_eq std code_0 w R
theorem drawsOk : drawsOk PP cfg okD (codeOf Try.f49) = true := by kernel_rfl
theorem calls (code_0 : Sl) {w : World} {R : Ending → World → Prop} (h : E std code_0 w R) : Calls PP F.spec_DrawPermOfTableaux #[Sl.v code_0] w R :=
  calls_of noCount mixed drawOk Try.func49 rfl (c := cfg) (args := [Sl.v code_0]) rfl (Nat.le_of_ble_eq_true (by kernel_rfl)) drawsOk h
end spec_DrawPermOfTableaux

namespace spec_DrawTurnTableau
@[reducible] def cfg : Cfg := ⟨6, [], [], [], [2], [], [101, 107, 112, 15, 21, 124, 76, 137, 28, 115, 91, 81, 130], [138, 140, 82, 6, 86, 85, 132]⟩
def E (pr : Prims) (code_0 : Sl) (w : World) (R : Ending → World → Prop) : Prop :=
  wpC pr PP cfg (DD pr) (codeOf Try.f52) (retQ Try.f52.results.toList R) (argE 0 [Sl.v code_0]) w
theorem E_eq (pr : Prims) (code_0 : Sl) (w : World) (R : Ending → World → Prop) : E pr code_0 w R = (
  pr.call1 .ptr PP F.spec_l1New #[Sl.v code_0] w fun (ρ0 : (Option Addr)) ω1 =>
  pr.call1 .sl PP F.spec_l19Draw #[.pointer ρ0] ω1 fun (ρ2 : Sl) ω3 =>
  R (.returned (Sl.v ρ2)) ω3) := by kernel_rfl
theorem E_s (code_0 : Sl) (w : World) (R : Ending → World → Prop) : E std code_0 w R = (
  call1 .ptr PP F.spec_l1New #[Sl.v code_0] w fun (ρ0 : (Option Addr)) ω1 =>
  call1 .sl PP F.spec_l19Draw #[.pointer ρ0] ω1 fun (ρ2 : Sl) ω3 =>
  R (.returned (Sl.v ρ2)) ω3) := E_eq std code_0 w R
theorem drawsOk : drawsOk PP cfg okD (codeOf Try.f52) = true := by kernel_rfl
theorem calls (code_0 : Sl) {w : World} {R : Ending → World → Prop} (h : E std code_0 w R) : Calls PP F.spec_DrawTurnTableau #[Sl.v code_0] w R :=
  calls_of noCount mixed drawOk Try.func52 rfl (c := cfg) (args := [Sl.v code_0]) rfl (Nat.le_of_ble_eq_true (by kernel_rfl)) drawsOk h
end spec_DrawTurnTableau

namespace spec_DrawTableauxOf
@[reducible] def cfg : Cfg := ⟨6, [], [], [], [2], [], [101, 107, 112, 15, 21, 124, 76, 137, 28, 115, 91, 81, 130], [138, 140, 82, 6, 86, 85, 132]⟩
def E (pr : Prims) (code_0 : Sl) (w : World) (R : Ending → World → Prop) : Prop :=
  wpC pr PP cfg (DD pr) (codeOf Try.f55) (retQ Try.f55.results.toList R) (argE 0 [Sl.v code_0]) w
theorem E_eq (pr : Prims) (code_0 : Sl) (w : World) (R : Ending → World → Prop) : E pr code_0 w R = (
  pr.call1 .ptr PP F.spec_l1New #[Sl.v code_0] w fun (ρ0 : (Option Addr)) ω1 =>
  pr.call1 .sl PP F.spec_l19DrawForm #[.pointer ρ0] ω1 fun (ρ2 : Sl) ω3 =>
  R (.returned (Sl.v ρ2)) ω3) := by kernel_rfl
theorem E_s (code_0 : Sl) (w : World) (R : Ending → World → Prop) : E std code_0 w R = (
  call1 .ptr PP F.spec_l1New #[Sl.v code_0] w fun (ρ0 : (Option Addr)) ω1 =>
  call1 .sl PP F.spec_l19DrawForm #[.pointer ρ0] ω1 fun (ρ2 : Sl) ω3 =>
  R (.returned (Sl.v ρ2)) ω3) := E_eq std code_0 w R
theorem drawsOk : drawsOk PP cfg okD (codeOf Try.f55) = true := by kernel_rfl
theorem calls (code_0 : Sl) {w : World} {R : Ending → World → Prop} (h : E std code_0 w R) : Calls PP F.spec_DrawTableauxOf #[Sl.v code_0] w R :=
  calls_of noCount mixed drawOk Try.func55 rfl (c := cfg) (args := [Sl.v code_0]) rfl (Nat.le_of_ble_eq_true (by kernel_rfl)) drawsOk h
end spec_DrawTableauxOf

namespace spec_l19Draw
@[reducible] def cfg : Cfg := ⟨34, [], [], [(4, [0, 3]), (6, [0, 3])], [2], [], [101, 107, 112, 15, 21, 124, 76, 137, 28, 115, 91, 81, 130], [138, 140, 82, 6, 86, 85, 132]⟩
def q5 (pr : Prims) (R : Ending → World → Prop) : Exit → Env → World → Prop := fun ex e w => normQ ex (fun e w => contE pr cfg (sub (codeOf Try.f103) [1, 1, 1]) (fun e w => wpC pr PP cfg (DD pr) (sub (codeOf Try.f103) [1, 1, 1]) (retQ Try.f103.results.toList R) e w) e w) (retQ Try.f103.results.toList R) e w
def q8 (pr : Prims) (R : Ending → World → Prop) : Exit → Env → World → Prop := fun ex e w => normQ ex (fun e w => contE pr cfg (sub (codeOf Try.f103) [1, 1, 1, 1]) (fun e w => wpC pr PP cfg (DD pr) (sub (codeOf Try.f103) [1, 1, 1, 1]) (retQ Try.f103.results.toList R) e w) e w) (retQ Try.f103.results.toList R) e w
def j4 (c_0 : Addr) (a_3 : Sl) : Env := [(0, .pointer (some c_0)), (3, Sl.v a_3)]
def j6 (c_0 : Addr) (a_3 : Sl) : Env := [(0, .pointer (some c_0)), (3, Sl.v a_3)]
def J6 (pr : Prims) (c_0 : Addr) (a_3 : Sl) (w : World) (R : Ending → World → Prop) : Prop :=
  pr.seg (fun e w => wpC pr PP cfg (DD pr) (sub (codeOf Try.f103) [1, 1, 1, 1]) (retQ Try.f103.results.toList R) e w) (j6 c_0 a_3) w
def J4 (pr : Prims) (c_0 : Addr) (a_3 : Sl) (w : World) (R : Ending → World → Prop) : Prop :=
  pr.seg (fun e w => wpC pr PP cfg (DD pr) (sub (codeOf Try.f103) [1, 1, 1]) (retQ Try.f103.results.toList R) e w) (j4 c_0 a_3) w
def E (pr : Prims) (c_0 : Addr) (w : World) (R : Ending → World → Prop) : Prop :=
  wpC pr PP cfg (DD pr) (codeOf Try.f103) (retQ Try.f103.results.toList R) (argE 0 [.pointer (some c_0)]) w
theorem J6_gen (pr : Prims) (c_0 : Addr) (a_3 : Sl) (w : World) (R : Ending → World → Prop) : wpC pr PP cfg (DD pr) (sub (codeOf Try.f103) [1, 1, 1, 1]) (retQ Try.f103.results.toList R) (j6 c_0 a_3) w = (
  pr.call1 .bool PP F.spec_l1Once #[.pointer (some c_0), vI 14] w fun (ρ18 : Bool) ω19 =>
  bif ρ18 then (
  pr.sem1 .sl PP (Instr.buildSlice T_Sint 0 #[]) ω19 fun (ρ20 : Sl) ω21 =>
  pr.sem1 .sl PP (Instr.buildSlice T_SSint 1 #[(0, Sl.v ρ20)]) ω21 fun (ρ22 : Sl) ω23 =>
  pr.sem1 .sl PP (Builtin.append_ #[T_SSint, T_SSint] T_SSint #[Sl.v a_3, Sl.v ρ22]) ω23 fun (ρ24 : Sl) ω25 =>
  R (.returned (Sl.v ρ24)) ω25)
  else (
  R (.returned (Sl.v a_3)) ω19)) := by kernel_rfl
theorem J6_s (c_0 : Addr) (a_3 : Sl) (w : World) (R : Ending → World → Prop) : J6 std c_0 a_3 w R = (
  call1 .bool PP F.spec_l1Once #[.pointer (some c_0), vI 14] w fun (ρ18 : Bool) ω19 =>
  bif ρ18 then (
  sem1 .sl PP (Instr.buildSlice T_Sint 0 #[]) ω19 fun (ρ20 : Sl) ω21 =>
  sem1 .sl PP (Instr.buildSlice T_SSint 1 #[(0, Sl.v ρ20)]) ω21 fun (ρ22 : Sl) ω23 =>
  sem1 .sl PP (Builtin.append_ #[T_SSint, T_SSint] T_SSint #[Sl.v a_3, Sl.v ρ22]) ω23 fun (ρ24 : Sl) ω25 =>
  R (.returned (Sl.v ρ24)) ω25)
  else (
  R (.returned (Sl.v a_3)) ω19)) := J6_gen std c_0 a_3 w R
theorem J4_gen (pr : Prims) (c_0 : Addr) (a_3 : Sl) (w : World) (R : Ending → World → Prop) : wpC pr PP cfg (DD pr) (sub (codeOf Try.f103) [1, 1, 1]) (retQ Try.f103.results.toList R) (j4 c_0 a_3) w = (
  bif decide ((a_3.n : Int) > 0) then (
  pr.call1 .bool PP F.spec_l1Once #[.pointer (some c_0), vI 12] w fun (ρ9 : Bool) ω10 =>
  bif ρ9 then (
  pr.drewAll ω10 fun ω11 =>
  pr.idxK 1 a_3 0 fun (a12 : Addr) =>
  (pr.load1 .sl a12 ω11 fun (ξ13 : Sl) =>
  pr.call1 (.int .i64) PP F.spec_l1Below #[.pointer (some c_0), vI 10] ω11 fun (ρ14 : Int) ω15 =>
  pr.idxK 1 ξ13 0 fun (a16 : Addr) =>
  pr.storeC a16 (vI ρ14) ω15 fun ω17 =>
  J6 pr c_0 a_3 ω17 R) ∧
  (pr.call1 (.int .i64) PP F.spec_l1Below #[.pointer (some c_0), vI 10] ω11 fun (ρ26 : Int) ω27 =>
  pr.load1 .sl a12 ω27 fun (ξ28 : Sl) =>
  pr.idxK 1 ξ28 0 fun (a29 : Addr) =>
  pr.storeC a29 (vI ρ26) ω27 fun ω30 =>
  J6 pr c_0 a_3 ω30 R))
  else (
  J6 pr c_0 a_3 ω10 R))
  else (
  J6 pr c_0 a_3 w R)) := by kernel_rfl
theorem J4_s (c_0 : Addr) (a_3 : Sl) (w : World) (R : Ending → World → Prop) : J4 std c_0 a_3 w R = (
  bif decide ((a_3.n : Int) > 0) then (
  call1 .bool PP F.spec_l1Once #[.pointer (some c_0), vI 12] w fun (ρ9 : Bool) ω10 =>
  bif ρ9 then (
  drewAll ω10 fun ω11 =>
  idxK 1 a_3 0 fun (a12 : Addr) =>
  (load1 .sl a12 ω11 fun (ξ13 : Sl) =>
  call1 (.int .i64) PP F.spec_l1Below #[.pointer (some c_0), vI 10] ω11 fun (ρ14 : Int) ω15 =>
  idxK 1 ξ13 0 fun (a16 : Addr) =>
  storeC a16 (vI ρ14) ω15 fun ω17 =>
  J6 std c_0 a_3 ω17 R) ∧
  (call1 (.int .i64) PP F.spec_l1Below #[.pointer (some c_0), vI 10] ω11 fun (ρ26 : Int) ω27 =>
  load1 .sl a12 ω27 fun (ξ28 : Sl) =>
  idxK 1 ξ28 0 fun (a29 : Addr) =>
  storeC a29 (vI ρ26) ω27 fun ω30 =>
  J6 std c_0 a_3 ω30 R))
  else (
  J6 std c_0 a_3 ω10 R))
  else (
  J6 std c_0 a_3 w R)) := J4_gen std c_0 a_3 w R
theorem E_eq (pr : Prims) (c_0 : Addr) (w : World) (R : Ending → World → Prop) : E pr c_0 w R = (
  pr.call1 .sl PP F.spec_l2Any #[.pointer (some c_0)] w fun (ρ0 : Sl) ω1 =>
  pr.call2 .sl .sl PP F.spec_l19Insert #[Sl.v ρ0] ω1 fun (ρ2 : Sl) (ρ3 : Sl) ω4 =>
  pr.call1 .bool PP F.spec_l1Once #[.pointer (some c_0), vI 2] ω4 fun (ρ6 : Bool) ω7 =>
  bif ρ6 then (
  J4 pr c_0 ρ3 ω7 R)
  else (
  J4 pr c_0 ρ2 ω7 R)) := by kernel_rfl
theorem E_s (c_0 : Addr) (w : World) (R : Ending → World → Prop) : E std c_0 w R = (
  call1 .sl PP F.spec_l2Any #[.pointer (some c_0)] w fun (ρ0 : Sl) ω1 =>
  call2 .sl .sl PP F.spec_l19Insert #[Sl.v ρ0] ω1 fun (ρ2 : Sl) (ρ3 : Sl) ω4 =>
  call1 .bool PP F.spec_l1Once #[.pointer (some c_0), vI 2] ω4 fun (ρ6 : Bool) ω7 =>
  bif ρ6 then (
  J4 std c_0 ρ3 ω7 R)
  else (
  J4 std c_0 ρ2 ω7 R)) := E_eq std c_0 w R
theorem drawsOk : drawsOk PP cfg okD (codeOf Try.f103) = true := by kernel_rfl
theorem calls (c_0 : Addr) {w : World} {R : Ending → World → Prop} (h : E std c_0 w R) : Calls PP F.spec_l19Draw #[.pointer (some c_0)] w R :=
  calls_of noCount mixed drawOk Try.func103 rfl (c := cfg) (args := [.pointer (some c_0)]) rfl (Nat.le_of_ble_eq_true (by kernel_rfl)) drawsOk h
end spec_l19Draw

namespace spec_l19DrawForm
@[reducible] def cfg : Cfg := ⟨16, [], [], [], [2], [], [101, 107, 112, 15, 21, 124, 76, 137, 28, 115, 91, 81, 130], [138, 140, 82, 6, 86, 85, 132]⟩
def E (pr : Prims) (c_0 : Addr) (w : World) (R : Ending → World → Prop) : Prop :=
  wpC pr PP cfg (DD pr) (codeOf Try.f111) (retQ Try.f111.results.toList R) (argE 0 [.pointer (some c_0)]) w
theorem E_eq (pr : Prims) (c_0 : Addr) (w : World) (R : Ending → World → Prop) : E pr c_0 w R = (
  pr.call1 .sl PP F.spec_l19Draw #[.pointer (some c_0)] w fun (ρ0 : Sl) ω1 =>
  pr.call1 .sl PP F.spec_l19Lengths #[Sl.v ρ0] ω1 fun (ρ2 : Sl) ω3 =>
  pr.call1 .bool PP F.spec_l1Once #[.pointer (some c_0), vI 10] ω3 fun (ρ4 : Bool) ω5 =>
  bif ρ4 then (
  pr.call1 (.int .i64) PP F.spec_l1Below #[.pointer (some c_0), vI 5] ω5 fun (ρ6 : Int) ω7 =>
  pr.sem1 .sl PP (Instr.buildSlice T_Sint 1 #[(0, vI (w64 (ρ6 - 1)))]) ω7 fun (ρ8 : Sl) ω9 =>
  pr.sem1 .sl PP (Builtin.append_ #[T_Sint, T_Sint] T_Sint #[Sl.v ρ2, Sl.v ρ8]) ω9 fun (ρ10 : Sl) ω11 =>
  R (.returned (Sl.v ρ10)) ω11)
  else (
  R (.returned (Sl.v ρ2)) ω5)) := by kernel_rfl
theorem E_s (c_0 : Addr) (w : World) (R : Ending → World → Prop) : E std c_0 w R = (
  call1 .sl PP F.spec_l19Draw #[.pointer (some c_0)] w fun (ρ0 : Sl) ω1 =>
  call1 .sl PP F.spec_l19Lengths #[Sl.v ρ0] ω1 fun (ρ2 : Sl) ω3 =>
  call1 .bool PP F.spec_l1Once #[.pointer (some c_0), vI 10] ω3 fun (ρ4 : Bool) ω5 =>
  bif ρ4 then (
  call1 (.int .i64) PP F.spec_l1Below #[.pointer (some c_0), vI 5] ω5 fun (ρ6 : Int) ω7 =>
  sem1 .sl PP (Instr.buildSlice T_Sint 1 #[(0, vI (w64 (ρ6 - 1)))]) ω7 fun (ρ8 : Sl) ω9 =>
  sem1 .sl PP (Builtin.append_ #[T_Sint, T_Sint] T_Sint #[Sl.v ρ2, Sl.v ρ8]) ω9 fun (ρ10 : Sl) ω11 =>
  R (.returned (Sl.v ρ10)) ω11)
  else (
  R (.returned (Sl.v ρ2)) ω5)) := E_eq std c_0 w R
theorem drawsOk : drawsOk PP cfg okD (codeOf Try.f111) = true := by kernel_rfl
theorem calls (c_0 : Addr) {w : World} {R : Ending → World → Prop} (h : E std c_0 w R) : Calls PP F.spec_l19DrawForm #[.pointer (some c_0)] w R :=
  calls_of noCount mixed drawOk Try.func111 rfl (c := cfg) (args := [.pointer (some c_0)]) rfl (Nat.le_of_ble_eq_true (by kernel_rfl)) drawsOk h
end spec_l19DrawForm

namespace spec_InversePerm
@[reducible] def cfg : Cfg := ⟨10, [], [], [], [2, 3], [], [101, 107, 112, 15, 21, 124, 76, 137, 28, 115, 91, 81, 130], [138, 140, 82, 6, 86, 85, 132]⟩
def E (pr : Prims) (p_0 : Sl) (w : World) (R : Ending → World → Prop) : Prop :=
  wpC pr PP cfg (DD pr) (codeOf Try.f63) (retQ Try.f63.results.toList R) (argE 0 [Sl.v p_0]) w
theorem E_eq (pr : Prims) (p_0 : Sl) (w : World) (R : Ending → World → Prop) : E pr p_0 w R = (
  pr.call1 .bool PP F.spec_IsPerm #[Sl.v p_0] w fun (ρ0 : Bool) ω1 =>
  bif !ρ0 then (
  pr.sem1 .sl PP (Instr.buildSlice T_Sint 0 #[]) ω1 fun (ρ2 : Sl) ω3 =>
  R (.returned (.tuple #[Sl.v ρ2, .bool false])) ω3)
  else (
  pr.call1 .sl PP F.spec_l2Inverse #[Sl.v p_0] ω1 fun (ρ4 : Sl) ω5 =>
  R (.returned (.tuple #[Sl.v ρ4, .bool true])) ω5)) := by kernel_rfl
theorem E_s (p_0 : Sl) (w : World) (R : Ending → World → Prop) : E std p_0 w R = (
  call1 .bool PP F.spec_IsPerm #[Sl.v p_0] w fun (ρ0 : Bool) ω1 =>
  bif !ρ0 then (
  sem1 .sl PP (Instr.buildSlice T_Sint 0 #[]) ω1 fun (ρ2 : Sl) ω3 =>
  R (.returned (.tuple #[Sl.v ρ2, .bool false])) ω3)
  else (
  call1 .sl PP F.spec_l2Inverse #[Sl.v p_0] ω1 fun (ρ4 : Sl) ω5 =>
  R (.returned (.tuple #[Sl.v ρ4, .bool true])) ω5)) := E_eq std p_0 w R
theorem drawsOk : drawsOk PP cfg okD (codeOf Try.f63) = true := by kernel_rfl
theorem calls (p_0 : Sl) {w : World} {R : Ending → World → Prop} (h : E std p_0 w R) : Calls PP F.spec_InversePerm #[Sl.v p_0] w R :=
  calls_of noCount mixed drawOk Try.func63 rfl (c := cfg) (args := [Sl.v p_0]) rfl (Nat.le_of_ble_eq_true (by kernel_rfl)) drawsOk h
end spec_InversePerm

namespace spec_l2Inverse
@[reducible] def cfg : Cfg := ⟨24, [(3, [0, 3, 4])], [(1, [0, 3, 4]), (0, [3])], [], [2], [], [101, 107, 112, 15, 21, 124, 76, 137, 28, 115, 91, 81, 130], [138, 140, 82, 6, 86, 85, 132]⟩
def q2 (pr : Prims) (R : Ending → World → Prop) : Exit → Env → World → Prop := fun ex e w => normQ ex (fun e w => contE pr cfg (sub (codeOf Try.f119) [1, 1, 1]) (fun e w => wpC pr PP cfg (DD pr) (sub (codeOf Try.f119) [1, 1, 1]) (retQ Try.f119.results.toList R) e w) e w) (retQ Try.f119.results.toList R) e w
def q3 (pr : Prims) (R : Ending → World → Prop) : Exit → Env → World → Prop := fun ex e w => blockQ ex 0 (q2 pr R) e w
def emb3 (p_0 : Sl) (out_3 : Sl) (k_4 : Int) : Env := [(0, Sl.v p_0), (3, Sl.v out_3), (4, vI k_4)]
def x0 (out_3 : Sl) : Env := [(3, Sl.v out_3)]
def S3 (pr : Prims) (Q : Exit → Env → World → Prop) : (Env → World → Prop) → Env → World → Prop := fun k e w => wpC pr PP cfg (DD pr) (sub (codeOf Try.f119) [1, 1, 0, 1, 0, 0]) (fun ex e w => normQ ex (fun e' w' => k (Env.restr e' (lookN cfg.loops (keyOf (sub (codeOf Try.f119) [1, 1, 0, 1, 0, 0])))) w') Q e w) e w
def B3 (pr : Prims) (p_0 : Sl) (out_3 : Sl) (k_4 : Int) (w : World) (k : Env → World → Prop) (Q : Exit → Env → World → Prop) : Prop :=
  S3 pr Q k (emb3 p_0 out_3 k_4) w
def L3 (pr : Prims) (p_0 : Sl) (out_3 : Sl) (k_4 : Int) (w : World) (Q : Exit → Env → World → Prop) : Prop :=
  pr.loop (S3 pr Q) (emb3 p_0 out_3 k_4) w
def E (pr : Prims) (p_0 : Sl) (w : World) (R : Ending → World → Prop) : Prop :=
  wpC pr PP cfg (DD pr) (codeOf Try.f119) (retQ Try.f119.results.toList R) (argE 0 [Sl.v p_0]) w
theorem B3_eq (pr : Prims) (p_0 : Sl) (out_3 : Sl) (k_4 : Int) (w : World) (k : Env → World → Prop) (Q : Exit → Env → World → Prop) : B3 pr p_0 out_3 k_4 w k Q = (
  bif decide (k_4 < (p_0.n : Int)) then (
  pr.idxK 1 p_0 k_4 fun (a4 : Addr) =>
  pr.load1 (.int .i64) a4 w fun (ξ5 : Int) =>
  pr.idxK 1 out_3 (w64 (ξ5 - 1)) fun (a6 : Addr) =>
  pr.storeC a6 (vI (w64 (k_4 + 1))) w fun ω7 =>
  k (emb3 p_0 out_3 (w64 (k_4 + 1))) ω7)
  else (
  Q (.exit 0) (x0 out_3) w)) := by kernel_rfl
theorem B3_s (p_0 : Sl) (out_3 : Sl) (k_4 : Int) (w : World) (k : Env → World → Prop) (Q : Exit → Env → World → Prop) : B3 std p_0 out_3 k_4 w k Q = (
  bif decide (k_4 < (p_0.n : Int)) then (
  idxK 1 p_0 k_4 fun (a4 : Addr) =>
  load1 (.int .i64) a4 w fun (ξ5 : Int) =>
  idxK 1 out_3 (w64 (ξ5 - 1)) fun (a6 : Addr) =>
  storeC a6 (vI (w64 (k_4 + 1))) w fun ω7 =>
  k (emb3 p_0 out_3 (w64 (k_4 + 1))) ω7)
  else (
  Q (.exit 0) (x0 out_3) w)) := B3_eq std p_0 out_3 k_4 w k Q
theorem L3_rule (p_0 : Sl) (out_3 : Sl) (k_4 : Int) (w : World) (Q : Exit → Env → World → Prop) (I : Int → World → Prop) (μ : Int → World → Nat) (h0 : I k_4 w)
    (h : ∀ (k_4 : Int) (w' : World), I k_4 w' → B3 std p_0 out_3 k_4 w' (fun e2 w2 => ∃ k_4_n, e2 = emb3 p_0 out_3 k_4_n ∧ I k_4_n w2 ∧ μ k_4_n w2 < μ k_4 w') Q) :
    L3 std p_0 out_3 k_4 w Q := by
  unfold L3
  refine LoopE.intro (σ := Int) (step := S3 std Q) (fun s => emb3 p_0 out_3 s) (fun s w => I s w) (fun s w => μ s w) k_4 rfl h0 ?_
  intro s w' hI
  have h1 := h s w' hI
  unfold B3 at h1
  exact h1
theorem A3_0_eq (pr : Prims) (out_3 : Sl) (w : World) (R : Ending → World → Prop) : (q3 pr R) (.exit 0) (x0 out_3) w = (
  R (.returned (Sl.v out_3)) w) := by kernel_rfl
theorem A3_0_s (out_3 : Sl) (w : World) (R : Ending → World → Prop) : (q3 std R) (.exit 0) (x0 out_3) w = (
  R (.returned (Sl.v out_3)) w) := A3_0_eq std out_3 w R
theorem E_eq (pr : Prims) (p_0 : Sl) (w : World) (R : Ending → World → Prop) : E pr p_0 w R = (
  pr.sem1 .sl PP (Instr.makeSlice T_Sint (vI (p_0.n : Int)) (vI (p_0.n : Int))) w fun (ρ0 : Sl) ω1 =>
  L3 pr p_0 ρ0 0 ω1 (q3 pr R)) := by kernel_rfl
theorem E_s (p_0 : Sl) (w : World) (R : Ending → World → Prop) : E std p_0 w R = (
  sem1 .sl PP (Instr.makeSlice T_Sint (vI (p_0.n : Int)) (vI (p_0.n : Int))) w fun (ρ0 : Sl) ω1 =>
  L3 std p_0 ρ0 0 ω1 (q3 std R)) := E_eq std p_0 w R
theorem drawsOk : drawsOk PP cfg okD (codeOf Try.f119) = true := by kernel_rfl
theorem calls (p_0 : Sl) {w : World} {R : Ending → World → Prop} (h : E std p_0 w R) : Calls PP F.spec_l2Inverse #[Sl.v p_0] w R :=
  calls_of noCount mixed drawOk Try.func119 rfl (c := cfg) (args := [Sl.v p_0]) rfl (Nat.le_of_ble_eq_true (by kernel_rfl)) drawsOk h
end spec_l2Inverse

namespace spec_ReversePerm
@[reducible] def cfg : Cfg := ⟨9, [], [], [], [2], [], [101, 107, 112, 15, 21, 124, 76, 137, 28, 115, 91, 81, 130], [138, 140, 82, 6, 86, 85, 132]⟩
def E (pr : Prims) (p_0 : Sl) (w : World) (R : Ending → World → Prop) : Prop :=
  wpC pr PP cfg (DD pr) (codeOf Try.f64) (retQ Try.f64.results.toList R) (argE 0 [Sl.v p_0]) w
theorem E_eq (pr : Prims) (p_0 : Sl) (w : World) (R : Ending → World → Prop) : E pr p_0 w R = (
  pr.call1 .bool PP F.spec_IsPerm #[Sl.v p_0] w fun (ρ0 : Bool) ω1 =>
  bif !ρ0 then (
  pr.sem1 .sl PP (Instr.buildSlice T_Sint 0 #[]) ω1 fun (ρ2 : Sl) ω3 =>
  R (.returned (Sl.v ρ2)) ω3)
  else (
  pr.call1 .sl PP F.spec_l3Reverse #[Sl.v p_0] ω1 fun (ρ4 : Sl) ω5 =>
  R (.returned (Sl.v ρ4)) ω5)) := by kernel_rfl
theorem E_s (p_0 : Sl) (w : World) (R : Ending → World → Prop) : E std p_0 w R = (
  call1 .bool PP F.spec_IsPerm #[Sl.v p_0] w fun (ρ0 : Bool) ω1 =>
  bif !ρ0 then (
  sem1 .sl PP (Instr.buildSlice T_Sint 0 #[]) ω1 fun (ρ2 : Sl) ω3 =>
  R (.returned (Sl.v ρ2)) ω3)
  else (
  call1 .sl PP F.spec_l3Reverse #[Sl.v p_0] ω1 fun (ρ4 : Sl) ω5 =>
  R (.returned (Sl.v ρ4)) ω5)) := E_eq std p_0 w R
theorem drawsOk : drawsOk PP cfg okD (codeOf Try.f64) = true := by kernel_rfl
theorem calls (p_0 : Sl) {w : World} {R : Ending → World → Prop} (h : E std p_0 w R) : Calls PP F.spec_ReversePerm #[Sl.v p_0] w R :=
  calls_of noCount mixed drawOk Try.func64 rfl (c := cfg) (args := [Sl.v p_0]) rfl (Nat.le_of_ble_eq_true (by kernel_rfl)) drawsOk h
end spec_ReversePerm

end Go.Proofs.Ytdchjhhpbdekeaa

/- What each function does, step by step, written by a program (Gen.lean); each equation is checked by the kernel. -/
namespace Go.Proofs.Ytdchjhhpbdekeaa
open Go
set_option linter.unusedVariables false
set_option maxRecDepth 100000
namespace spec_l19Put
@[reducible] def cfg : Cfg := ⟨76, [(5, [0, 1, 6, 7]), (2, [0, 1, 6])], [(3, [0, 1, 6, 7]), (2, [0, 1, 6, 7]), (1, [0, 1, 6]), (0, [0, 1])], [], [4, 5], [], [101, 107, 112, 15, 21, 124, 76, 137, 28, 115, 91, 81, 130], [138, 140, 82, 6, 86, 85, 132]⟩
def q0 (pr : Prims) (R : Ending → World → Prop) : Exit → Env → World → Prop := fun ex e w => normQ ex (fun e w => contE pr cfg (sub (codeOf Try.f133) [1, 1]) (fun e w => wpC pr PP cfg (DD pr) (sub (codeOf Try.f133) [1, 1]) (retQ Try.f133.results.toList R) e w) e w) (retQ Try.f133.results.toList R) e w
def q1 (pr : Prims) (R : Ending → World → Prop) : Exit → Env → World → Prop := fun ex e w => blockQ ex 0 (q0 pr R) e w
def q2 (pr : Prims) (k : Env → World → Prop) (Q : Exit → Env → World → Prop) : Exit → Env → World → Prop := fun ex e w => normQ ex (fun e w => contE pr cfg (sub (codeOf Try.f133) [1, 0, 1, 0, 0, 1, 1]) (fun e w => wpC pr PP cfg (DD pr) (sub (codeOf Try.f133) [1, 0, 1, 0, 0, 1, 1]) (fun ex e w => normQ ex (fun e' w' => k (Env.restr e' (lookN cfg.loops (keyOf (sub (codeOf Try.f133) [1, 0, 1, 0, 0])))) w') Q e w) e w) e w) (fun ex e w => normQ ex (fun e' w' => k (Env.restr e' (lookN cfg.loops (keyOf (sub (codeOf Try.f133) [1, 0, 1, 0, 0])))) w') Q e w) e w
def q3 (pr : Prims) (k : Env → World → Prop) (Q : Exit → Env → World → Prop) : Exit → Env → World → Prop := fun ex e w => blockQ ex 1 (q2 pr k Q) e w
def q4 (pr : Prims) (k : Env → World → Prop) (Q : Exit → Env → World → Prop) : Exit → Env → World → Prop := fun ex e w => normQ ex (fun e w => contE pr cfg (sub (codeOf Try.f133) [1, 0, 1, 0, 0, 1, 0, 0, 1, 1]) (fun e w => wpC pr PP cfg (DD pr) (sub (codeOf Try.f133) [1, 0, 1, 0, 0, 1, 0, 0, 1, 1]) (q3 pr k Q) e w) e w) (q3 pr k Q) e w
def q5 (pr : Prims) (k : Env → World → Prop) (Q : Exit → Env → World → Prop) : Exit → Env → World → Prop := fun ex e w => blockQ ex 2 (q4 pr k Q) e w
def emb2 (t_0 : Sl) (n_1 : Int) (r_6 : Int) : Env := [(0, Sl.v t_0), (1, vI n_1), (6, vI r_6)]
def emb5 (t_0 : Sl) (n_1 : Int) (r_6 : Int) (c_7 : Int) : Env := [(0, Sl.v t_0), (1, vI n_1), (6, vI r_6), (7, vI c_7)]
def x2 (t_0 : Sl) (n_1 : Int) (r_6 : Int) (c_7 : Int) : Env := [(0, Sl.v t_0), (1, vI n_1), (6, vI r_6), (7, vI c_7)]
def x0 (t_0 : Sl) (n_1 : Int) : Env := [(0, Sl.v t_0), (1, vI n_1)]
def S5 (pr : Prims) (Q : Exit → Env → World → Prop) : (Env → World → Prop) → Env → World → Prop := fun k e w => wpC pr PP cfg (DD pr) (sub (codeOf Try.f133) [1, 0, 1, 0, 0, 1, 0, 0, 1, 0, 0, 0]) (fun ex e w => normQ ex (fun e' w' => k (Env.restr e' (lookN cfg.loops (keyOf (sub (codeOf Try.f133) [1, 0, 1, 0, 0, 1, 0, 0, 1, 0, 0, 0])))) w') Q e w) e w
def S2 (pr : Prims) (Q : Exit → Env → World → Prop) : (Env → World → Prop) → Env → World → Prop := fun k e w => wpC pr PP cfg (DD pr) (sub (codeOf Try.f133) [1, 0, 1, 0, 0]) (fun ex e w => normQ ex (fun e' w' => k (Env.restr e' (lookN cfg.loops (keyOf (sub (codeOf Try.f133) [1, 0, 1, 0, 0])))) w') Q e w) e w
def B5 (pr : Prims) (t_0 : Sl) (n_1 : Int) (r_6 : Int) (c_7 : Int) (w : World) (k : Env → World → Prop) (Q : Exit → Env → World → Prop) : Prop :=
  S5 pr Q k (emb5 t_0 n_1 r_6 c_7) w
def L5 (pr : Prims) (t_0 : Sl) (n_1 : Int) (r_6 : Int) (c_7 : Int) (w : World) (Q : Exit → Env → World → Prop) : Prop :=
  pr.loop (S5 pr Q) (emb5 t_0 n_1 r_6 c_7) w
def B2 (pr : Prims) (t_0 : Sl) (n_1 : Int) (r_6 : Int) (w : World) (k : Env → World → Prop) (Q : Exit → Env → World → Prop) : Prop :=
  S2 pr Q k (emb2 t_0 n_1 r_6) w
def L2 (pr : Prims) (t_0 : Sl) (n_1 : Int) (r_6 : Int) (w : World) (Q : Exit → Env → World → Prop) : Prop :=
  pr.loop (S2 pr Q) (emb2 t_0 n_1 r_6) w
def E (pr : Prims) (t_0 : Sl) (n_1 : Int) (w : World) (R : Ending → World → Prop) : Prop :=
  wpC pr PP cfg (DD pr) (codeOf Try.f133) (retQ Try.f133.results.toList R) (argE 0 [Sl.v t_0, vI n_1]) w
theorem B5_eq (pr : Prims) (t_0 : Sl) (n_1 : Int) (r_6 : Int) (c_7 : Int) (w : World) (k : Env → World → Prop) (Q : Exit → Env → World → Prop) : B5 pr t_0 n_1 r_6 c_7 w k Q = (
  pr.idxK 1 t_0 r_6 fun (a6 : Addr) =>
  pr.load1 .sl a6 w fun (ξ7 : Sl) =>
  bif decide (c_7 < (ξ7.n : Int)) then (
  pr.idxK 1 t_0 r_6 fun (a8 : Addr) =>
  pr.load1 .sl a8 w fun (ξ9 : Sl) =>
  pr.idxK 1 ξ9 c_7 fun (a10 : Addr) =>
  pr.load1 (.int .i64) a10 w fun (ξ11 : Int) =>
  bif decide (ξ11 < n_1) then (
  k (emb5 t_0 n_1 r_6 (w64 (c_7 + 1))) w)
  else (
  Q (.exit 2) (x2 t_0 n_1 r_6 c_7) w))
  else (
  Q (.exit 2) (x2 t_0 n_1 r_6 c_7) w)) := by kernel_rfl
theorem B5_s (t_0 : Sl) (n_1 : Int) (r_6 : Int) (c_7 : Int) (w : World) (k : Env → World → Prop) (Q : Exit → Env → World → Prop) : B5 std t_0 n_1 r_6 c_7 w k Q = (
  idxK 1 t_0 r_6 fun (a6 : Addr) =>
  load1 .sl a6 w fun (ξ7 : Sl) =>
  bif decide (c_7 < (ξ7.n : Int)) then (
  idxK 1 t_0 r_6 fun (a8 : Addr) =>
  load1 .sl a8 w fun (ξ9 : Sl) =>
  idxK 1 ξ9 c_7 fun (a10 : Addr) =>
  load1 (.int .i64) a10 w fun (ξ11 : Int) =>
  bif decide (ξ11 < n_1) then (
  k (emb5 t_0 n_1 r_6 (w64 (c_7 + 1))) w)
  else (
  Q (.exit 2) (x2 t_0 n_1 r_6 c_7) w))
  else (
  Q (.exit 2) (x2 t_0 n_1 r_6 c_7) w)) := B5_eq std t_0 n_1 r_6 c_7 w k Q
theorem L5_rule (t_0 : Sl) (n_1 : Int) (r_6 : Int) (c_7 : Int) (w : World) (Q : Exit → Env → World → Prop) (I : Int → World → Prop) (μ : Int → World → Nat) (h0 : I c_7 w)
    (h : ∀ (c_7 : Int) (w' : World), I c_7 w' → B5 std t_0 n_1 r_6 c_7 w' (fun e2 w2 => ∃ c_7_n, e2 = emb5 t_0 n_1 r_6 c_7_n ∧ I c_7_n w2 ∧ μ c_7_n w2 < μ c_7 w') Q) :
    L5 std t_0 n_1 r_6 c_7 w Q := by
  unfold L5
  refine LoopE.intro (σ := Int) (step := S5 std Q) (fun s => emb5 t_0 n_1 r_6 s) (fun s w => I s w) (fun s w => μ s w) c_7 rfl h0 ?_
  intro s w' hI
  have h1 := h s w' hI
  unfold B5 at h1
  exact h1
theorem A5_2_eq (pr : Prims) (t_0 : Sl) (n_1 : Int) (r_6 : Int) (c_7 : Int) (w : World) (k : Env → World → Prop) (Q : Exit → Env → World → Prop) : (q5 pr k Q) (.exit 2) (x2 t_0 n_1 r_6 c_7) w = (
  pr.idxK 1 t_0 r_6 fun (a12 : Addr) =>
  pr.load1 .sl a12 w fun (ξ13 : Sl) =>
  bif c_7 == (ξ13.n : Int) then (
  pr.idxK 1 t_0 r_6 fun (a14 : Addr) =>
  pr.load1 .sl a14 w fun (ξ15 : Sl) =>
  pr.sem1 .sl PP (Instr.buildSlice T_Sint 1 #[(0, vI n_1)]) w fun (ρ16 : Sl) ω17 =>
  pr.sem1 .sl PP (Builtin.append_ #[T_Sint, T_Sint] T_Sint #[Sl.v ξ15, Sl.v ρ16]) ω17 fun (ρ18 : Sl) ω19 =>
  pr.idxK 1 t_0 r_6 fun (a20 : Addr) =>
  pr.storeC a20 (Sl.v ρ18) ω19 fun ω21 =>
  Q .ret [(4, Sl.v t_0), (5, vI r_6)] ω21)
  else (
  pr.idxK 1 t_0 r_6 fun (a22 : Addr) =>
  pr.load1 .sl a22 w fun (ξ23 : Sl) =>
  pr.idxK 1 ξ23 c_7 fun (a24 : Addr) =>
  pr.load1 (.int .i64) a24 w fun (ξ25 : Int) =>
  pr.idxK 1 t_0 r_6 fun (a26 : Addr) =>
  pr.load1 .sl a26 w fun (ξ27 : Sl) =>
  pr.idxK 1 ξ27 c_7 fun (a28 : Addr) =>
  pr.storeC a28 (vI n_1) w fun ω29 =>
  k (emb2 t_0 ξ25 (w64 (r_6 + 1))) ω29)) := by kernel_rfl
theorem A5_2_s (t_0 : Sl) (n_1 : Int) (r_6 : Int) (c_7 : Int) (w : World) (k : Env → World → Prop) (Q : Exit → Env → World → Prop) : (q5 std k Q) (.exit 2) (x2 t_0 n_1 r_6 c_7) w = (
  idxK 1 t_0 r_6 fun (a12 : Addr) =>
  load1 .sl a12 w fun (ξ13 : Sl) =>
  bif c_7 == (ξ13.n : Int) then (
  idxK 1 t_0 r_6 fun (a14 : Addr) =>
  load1 .sl a14 w fun (ξ15 : Sl) =>
  sem1 .sl PP (Instr.buildSlice T_Sint 1 #[(0, vI n_1)]) w fun (ρ16 : Sl) ω17 =>
  sem1 .sl PP (Builtin.append_ #[T_Sint, T_Sint] T_Sint #[Sl.v ξ15, Sl.v ρ16]) ω17 fun (ρ18 : Sl) ω19 =>
  idxK 1 t_0 r_6 fun (a20 : Addr) =>
  storeC a20 (Sl.v ρ18) ω19 fun ω21 =>
  Q .ret [(4, Sl.v t_0), (5, vI r_6)] ω21)
  else (
  idxK 1 t_0 r_6 fun (a22 : Addr) =>
  load1 .sl a22 w fun (ξ23 : Sl) =>
  idxK 1 ξ23 c_7 fun (a24 : Addr) =>
  load1 (.int .i64) a24 w fun (ξ25 : Int) =>
  idxK 1 t_0 r_6 fun (a26 : Addr) =>
  load1 .sl a26 w fun (ξ27 : Sl) =>
  idxK 1 ξ27 c_7 fun (a28 : Addr) =>
  storeC a28 (vI n_1) w fun ω29 =>
  k (emb2 t_0 ξ25 (w64 (r_6 + 1))) ω29)) := A5_2_eq std t_0 n_1 r_6 c_7 w k Q
theorem B2_eq (pr : Prims) (t_0 : Sl) (n_1 : Int) (r_6 : Int) (w : World) (k : Env → World → Prop) (Q : Exit → Env → World → Prop) : B2 pr t_0 n_1 r_6 w k Q = (
  bif decide (r_6 < (t_0.n : Int)) then (
  L5 pr t_0 n_1 r_6 0 w (q5 pr k Q))
  else (
  Q (.exit 0) (x0 t_0 n_1) w)) := by kernel_rfl
theorem B2_s (t_0 : Sl) (n_1 : Int) (r_6 : Int) (w : World) (k : Env → World → Prop) (Q : Exit → Env → World → Prop) : B2 std t_0 n_1 r_6 w k Q = (
  bif decide (r_6 < (t_0.n : Int)) then (
  L5 std t_0 n_1 r_6 0 w (q5 std k Q))
  else (
  Q (.exit 0) (x0 t_0 n_1) w)) := B2_eq std t_0 n_1 r_6 w k Q
theorem L2_rule (t_0 : Sl) (n_1 : Int) (r_6 : Int) (w : World) (Q : Exit → Env → World → Prop) (I : Int → Int → World → Prop) (μ : Int → Int → World → Nat) (h0 : I n_1 r_6 w)
    (h : ∀ (n_1 : Int) (r_6 : Int) (w' : World), I n_1 r_6 w' → B2 std t_0 n_1 r_6 w' (fun e2 w2 => ∃ n_1_n r_6_n, e2 = emb2 t_0 n_1_n r_6_n ∧ I n_1_n r_6_n w2 ∧ μ n_1_n r_6_n w2 < μ n_1 r_6 w') Q) :
    L2 std t_0 n_1 r_6 w Q := by
  unfold L2
  refine LoopE.intro (σ := Int × Int) (step := S2 std Q) (fun s => emb2 t_0 s.1 s.2) (fun s w => I s.1 s.2 w) (fun s w => μ s.1 s.2 w) (n_1, r_6) rfl h0 ?_
  intro s w' hI
  have h1 := h s.1 s.2 w' hI
  unfold B2 at h1
  simp only [Prod.exists]
  exact h1
theorem A2_0_eq (pr : Prims) (t_0 : Sl) (n_1 : Int) (w : World) (R : Ending → World → Prop) : (q1 pr R) (.exit 0) (x0 t_0 n_1) w = (
  pr.sem1 .sl PP (Instr.buildSlice T_Sint 1 #[(0, vI n_1)]) w fun (ρ30 : Sl) ω31 =>
  pr.sem1 .sl PP (Instr.buildSlice T_SSint 1 #[(0, Sl.v ρ30)]) ω31 fun (ρ32 : Sl) ω33 =>
  pr.sem1 .sl PP (Builtin.append_ #[T_SSint, T_SSint] T_SSint #[Sl.v t_0, Sl.v ρ32]) ω33 fun (ρ34 : Sl) ω35 =>
  R (.returned (.tuple #[Sl.v ρ34, vI (t_0.n : Int)])) ω35) := by kernel_rfl
theorem A2_0_s (t_0 : Sl) (n_1 : Int) (w : World) (R : Ending → World → Prop) : (q1 std R) (.exit 0) (x0 t_0 n_1) w = (
  sem1 .sl PP (Instr.buildSlice T_Sint 1 #[(0, vI n_1)]) w fun (ρ30 : Sl) ω31 =>
  sem1 .sl PP (Instr.buildSlice T_SSint 1 #[(0, Sl.v ρ30)]) ω31 fun (ρ32 : Sl) ω33 =>
  sem1 .sl PP (Builtin.append_ #[T_SSint, T_SSint] T_SSint #[Sl.v t_0, Sl.v ρ32]) ω33 fun (ρ34 : Sl) ω35 =>
  R (.returned (.tuple #[Sl.v ρ34, vI (t_0.n : Int)])) ω35) := A2_0_eq std t_0 n_1 w R
theorem R2_eq (pr : Prims) (v4 : Value) (v5 : Value) (w : World) (R : Ending → World → Prop) : (q1 pr R) .ret [(4, v4), (5, v5)] w = (
  R (.returned (.tuple #[v4, v5])) w) := by kernel_rfl
theorem R2_s (v4 : Value) (v5 : Value) (w : World) (R : Ending → World → Prop) : (q1 std R) .ret [(4, v4), (5, v5)] w = (
  R (.returned (.tuple #[v4, v5])) w) := R2_eq std v4 v5 w R
theorem E_eq (pr : Prims) (t_0 : Sl) (n_1 : Int) (w : World) (R : Ending → World → Prop) : E pr t_0 n_1 w R = (
  L2 pr t_0 n_1 0 w (q1 pr R)) := by kernel_rfl
theorem E_s (t_0 : Sl) (n_1 : Int) (w : World) (R : Ending → World → Prop) : E std t_0 n_1 w R = (
  L2 std t_0 n_1 0 w (q1 std R)) := E_eq std t_0 n_1 w R
theorem drawsOk : drawsOk PP cfg okD (codeOf Try.f133) = true := by kernel_rfl
theorem calls (t_0 : Sl) (n_1 : Int) {w : World} {R : Ending → World → Prop} (h : E std t_0 n_1 w R) : Calls PP F.spec_l19Put #[Sl.v t_0, vI n_1] w R :=
  calls_of noCount mixed drawOk Try.func133 rfl (c := cfg) (args := [Sl.v t_0, vI n_1]) rfl (Nat.le_of_ble_eq_true (by kernel_rfl)) drawsOk h
end spec_l19Put

namespace spec_l19Insert
@[reducible] def cfg : Cfg := ⟨46, [(4, [0, 4, 5, 6])], [(1, [0, 4, 5, 6]), (0, [4, 5])], [(10, [0, 4, 5, 6, 7])], [2, 3], [], [101, 107, 112, 15, 21, 124, 76, 137, 28, 115, 91, 81, 130], [138, 140, 82, 6, 86, 85, 132]⟩
def q4 (pr : Prims) (R : Ending → World → Prop) : Exit → Env → World → Prop := fun ex e w => normQ ex (fun e w => contE pr cfg (sub (codeOf Try.f98) [1, 1, 1, 1]) (fun e w => wpC pr PP cfg (DD pr) (sub (codeOf Try.f98) [1, 1, 1, 1]) (retQ Try.f98.results.toList R) e w) e w) (retQ Try.f98.results.toList R) e w
def q5 (pr : Prims) (R : Ending → World → Prop) : Exit → Env → World → Prop := fun ex e w => blockQ ex 0 (q4 pr R) e w
def q6 (pr : Prims) (k : Env → World → Prop) (Q : Exit → Env → World → Prop) : Exit → Env → World → Prop := fun ex e w => normQ ex (fun e w => contE pr cfg (sub (codeOf Try.f98) [1, 1, 1, 0, 1, 0, 0, 1, 1]) (fun e w => wpC pr PP cfg (DD pr) (sub (codeOf Try.f98) [1, 1, 1, 0, 1, 0, 0, 1, 1]) (fun ex e w => normQ ex (fun e' w' => k (Env.restr e' (lookN cfg.loops (keyOf (sub (codeOf Try.f98) [1, 1, 1, 0, 1, 0, 0])))) w') Q e w) e w) e w) (fun ex e w => normQ ex (fun e' w' => k (Env.restr e' (lookN cfg.loops (keyOf (sub (codeOf Try.f98) [1, 1, 1, 0, 1, 0, 0])))) w') Q e w) e w
def q7 (pr : Prims) (k : Env → World → Prop) (Q : Exit → Env → World → Prop) : Exit → Env → World → Prop := fun ex e w => blockQ ex 1 (q6 pr k Q) e w
def q13 (pr : Prims) (k : Env → World → Prop) (Q : Exit → Env → World → Prop) : Exit → Env → World → Prop := fun ex e w => normQ ex (fun e w => contE pr cfg (sub (codeOf Try.f98) [1, 1, 1, 0, 1, 0, 0, 1, 0, 0, 1, 1, 1]) (fun e w => wpC pr PP cfg (DD pr) (sub (codeOf Try.f98) [1, 1, 1, 0, 1, 0, 0, 1, 0, 0, 1, 1, 1]) (q7 pr k Q) e w) e w) (q7 pr k Q) e w
def emb4 (p_0 : Sl) (a_4 : Sl) (b_5 : Sl) (k_6 : Int) : Env := [(0, Sl.v p_0), (4, Sl.v a_4), (5, Sl.v b_5), (6, vI k_6)]
def j10 (p_0 : Sl) (a_4 : Sl) (b_5 : Sl) (k_6 : Int) (r_7 : Int) : Env := [(0, Sl.v p_0), (4, Sl.v a_4), (5, Sl.v b_5), (6, vI k_6), (7, vI r_7)]
def x0 (a_4 : Sl) (b_5 : Sl) : Env := [(4, Sl.v a_4), (5, Sl.v b_5)]
def S4 (pr : Prims) (Q : Exit → Env → World → Prop) : (Env → World → Prop) → Env → World → Prop := fun k e w => wpC pr PP cfg (DD pr) (sub (codeOf Try.f98) [1, 1, 1, 0, 1, 0, 0]) (fun ex e w => normQ ex (fun e' w' => k (Env.restr e' (lookN cfg.loops (keyOf (sub (codeOf Try.f98) [1, 1, 1, 0, 1, 0, 0])))) w') Q e w) e w
def J10 (pr : Prims) (p_0 : Sl) (a_4 : Sl) (b_5 : Sl) (k_6 : Int) (r_7 : Int) (w : World) (k : Env → World → Prop) (Q : Exit → Env → World → Prop) : Prop :=
  pr.seg (fun e w => wpC pr PP cfg (DD pr) (sub (codeOf Try.f98) [1, 1, 1, 0, 1, 0, 0, 1, 0, 0, 1, 1, 1]) (q7 pr k Q) e w) (j10 p_0 a_4 b_5 k_6 r_7) w
def B4 (pr : Prims) (p_0 : Sl) (a_4 : Sl) (b_5 : Sl) (k_6 : Int) (w : World) (k : Env → World → Prop) (Q : Exit → Env → World → Prop) : Prop :=
  S4 pr Q k (emb4 p_0 a_4 b_5 k_6) w
def L4 (pr : Prims) (p_0 : Sl) (a_4 : Sl) (b_5 : Sl) (k_6 : Int) (w : World) (Q : Exit → Env → World → Prop) : Prop :=
  pr.loop (S4 pr Q) (emb4 p_0 a_4 b_5 k_6) w
def E (pr : Prims) (p_0 : Sl) (w : World) (R : Ending → World → Prop) : Prop :=
  wpC pr PP cfg (DD pr) (codeOf Try.f98) (retQ Try.f98.results.toList R) (argE 0 [Sl.v p_0]) w
theorem J10_gen (pr : Prims) (p_0 : Sl) (a_4 : Sl) (b_5 : Sl) (k_6 : Int) (r_7 : Int) (w : World) (k : Env → World → Prop) (Q : Exit → Env → World → Prop) : wpC pr PP cfg (DD pr) (sub (codeOf Try.f98) [1, 1, 1, 0, 1, 0, 0, 1, 0, 0, 1, 1, 1]) (q7 pr k Q) (j10 p_0 a_4 b_5 k_6 r_7) w = (
  pr.idxK 1 b_5 r_7 fun (a20 : Addr) =>
  pr.load1 .sl a20 w fun (ξ21 : Sl) =>
  pr.sem1 .sl PP (Instr.buildSlice T_Sint 1 #[(0, vI (w64 (k_6 + 1)))]) w fun (ρ22 : Sl) ω23 =>
  pr.sem1 .sl PP (Builtin.append_ #[T_Sint, T_Sint] T_Sint #[Sl.v ξ21, Sl.v ρ22]) ω23 fun (ρ24 : Sl) ω25 =>
  pr.idxK 1 b_5 r_7 fun (a26 : Addr) =>
  pr.storeC a26 (Sl.v ρ24) ω25 fun ω27 =>
  k (emb4 p_0 a_4 b_5 (w64 (k_6 + 1))) ω27) := by kernel_rfl
theorem J10_s (p_0 : Sl) (a_4 : Sl) (b_5 : Sl) (k_6 : Int) (r_7 : Int) (w : World) (k : Env → World → Prop) (Q : Exit → Env → World → Prop) : J10 std p_0 a_4 b_5 k_6 r_7 w k Q = (
  idxK 1 b_5 r_7 fun (a20 : Addr) =>
  load1 .sl a20 w fun (ξ21 : Sl) =>
  sem1 .sl PP (Instr.buildSlice T_Sint 1 #[(0, vI (w64 (k_6 + 1)))]) w fun (ρ22 : Sl) ω23 =>
  sem1 .sl PP (Builtin.append_ #[T_Sint, T_Sint] T_Sint #[Sl.v ξ21, Sl.v ρ22]) ω23 fun (ρ24 : Sl) ω25 =>
  idxK 1 b_5 r_7 fun (a26 : Addr) =>
  storeC a26 (Sl.v ρ24) ω25 fun ω27 =>
  k (emb4 p_0 a_4 b_5 (w64 (k_6 + 1))) ω27) := J10_gen std p_0 a_4 b_5 k_6 r_7 w k Q
theorem B4_eq (pr : Prims) (p_0 : Sl) (a_4 : Sl) (b_5 : Sl) (k_6 : Int) (w : World) (k : Env → World → Prop) (Q : Exit → Env → World → Prop) : B4 pr p_0 a_4 b_5 k_6 w k Q = (
  bif decide (k_6 < (p_0.n : Int)) then (
  pr.idxK 1 p_0 k_6 fun (a8 : Addr) =>
  pr.load1 (.int .i64) a8 w fun (ξ9 : Int) =>
  pr.call2 .sl (.int .i64) PP F.spec_l19Put #[Sl.v a_4, vI ξ9] w fun (ρ10 : Sl) (ρ11 : Int) ω12 =>
  bif ρ11 == (b_5.n : Int) then (
  pr.sem1 .sl PP (Instr.buildSlice T_Sint 0 #[]) ω12 fun (ρ14 : Sl) ω15 =>
  pr.sem1 .sl PP (Instr.buildSlice T_SSint 1 #[(0, Sl.v ρ14)]) ω15 fun (ρ16 : Sl) ω17 =>
  pr.sem1 .sl PP (Builtin.append_ #[T_SSint, T_SSint] T_SSint #[Sl.v b_5, Sl.v ρ16]) ω17 fun (ρ18 : Sl) ω19 =>
  J10 pr p_0 ρ10 ρ18 k_6 ρ11 ω19 k Q)
  else (
  J10 pr p_0 ρ10 b_5 k_6 ρ11 ω12 k Q))
  else (
  Q (.exit 0) (x0 a_4 b_5) w)) := by kernel_rfl
theorem B4_s (p_0 : Sl) (a_4 : Sl) (b_5 : Sl) (k_6 : Int) (w : World) (k : Env → World → Prop) (Q : Exit → Env → World → Prop) : B4 std p_0 a_4 b_5 k_6 w k Q = (
  bif decide (k_6 < (p_0.n : Int)) then (
  idxK 1 p_0 k_6 fun (a8 : Addr) =>
  load1 (.int .i64) a8 w fun (ξ9 : Int) =>
  call2 .sl (.int .i64) PP F.spec_l19Put #[Sl.v a_4, vI ξ9] w fun (ρ10 : Sl) (ρ11 : Int) ω12 =>
  bif ρ11 == (b_5.n : Int) then (
  sem1 .sl PP (Instr.buildSlice T_Sint 0 #[]) ω12 fun (ρ14 : Sl) ω15 =>
  sem1 .sl PP (Instr.buildSlice T_SSint 1 #[(0, Sl.v ρ14)]) ω15 fun (ρ16 : Sl) ω17 =>
  sem1 .sl PP (Builtin.append_ #[T_SSint, T_SSint] T_SSint #[Sl.v b_5, Sl.v ρ16]) ω17 fun (ρ18 : Sl) ω19 =>
  J10 std p_0 ρ10 ρ18 k_6 ρ11 ω19 k Q)
  else (
  J10 std p_0 ρ10 b_5 k_6 ρ11 ω12 k Q))
  else (
  Q (.exit 0) (x0 a_4 b_5) w)) := B4_eq std p_0 a_4 b_5 k_6 w k Q
theorem L4_rule (p_0 : Sl) (a_4 : Sl) (b_5 : Sl) (k_6 : Int) (w : World) (Q : Exit → Env → World → Prop) (I : Sl → Sl → Int → World → Prop) (μ : Sl → Sl → Int → World → Nat) (h0 : I a_4 b_5 k_6 w)
    (h : ∀ (a_4 : Sl) (b_5 : Sl) (k_6 : Int) (w' : World), I a_4 b_5 k_6 w' → B4 std p_0 a_4 b_5 k_6 w' (fun e2 w2 => ∃ a_4_n b_5_n k_6_n, e2 = emb4 p_0 a_4_n b_5_n k_6_n ∧ I a_4_n b_5_n k_6_n w2 ∧ μ a_4_n b_5_n k_6_n w2 < μ a_4 b_5 k_6 w') Q) :
    L4 std p_0 a_4 b_5 k_6 w Q := by
  unfold L4
  refine LoopE.intro (σ := Sl × Sl × Int) (step := S4 std Q) (fun s => emb4 p_0 s.1 s.2.1 s.2.2) (fun s w => I s.1 s.2.1 s.2.2 w) (fun s w => μ s.1 s.2.1 s.2.2 w) (a_4, b_5, k_6) rfl h0 ?_
  intro s w' hI
  have h1 := h s.1 s.2.1 s.2.2 w' hI
  unfold B4 at h1
  simp only [Prod.exists]
  exact h1
theorem A4_0_eq (pr : Prims) (a_4 : Sl) (b_5 : Sl) (w : World) (R : Ending → World → Prop) : (q5 pr R) (.exit 0) (x0 a_4 b_5) w = (
  R (.returned (.tuple #[Sl.v a_4, Sl.v b_5])) w) := by kernel_rfl
theorem A4_0_s (a_4 : Sl) (b_5 : Sl) (w : World) (R : Ending → World → Prop) : (q5 std R) (.exit 0) (x0 a_4 b_5) w = (
  R (.returned (.tuple #[Sl.v a_4, Sl.v b_5])) w) := A4_0_eq std a_4 b_5 w R
theorem E_eq (pr : Prims) (p_0 : Sl) (w : World) (R : Ending → World → Prop) : E pr p_0 w R = (
  pr.sem1 .sl PP (Instr.buildSlice T_SSint 0 #[]) w fun (ρ0 : Sl) ω1 =>
  pr.sem1 .sl PP (Instr.buildSlice T_SSint 0 #[]) ω1 fun (ρ2 : Sl) ω3 =>
  L4 pr p_0 ρ0 ρ2 0 ω3 (q5 pr R)) := by kernel_rfl
theorem E_s (p_0 : Sl) (w : World) (R : Ending → World → Prop) : E std p_0 w R = (
  sem1 .sl PP (Instr.buildSlice T_SSint 0 #[]) w fun (ρ0 : Sl) ω1 =>
  sem1 .sl PP (Instr.buildSlice T_SSint 0 #[]) ω1 fun (ρ2 : Sl) ω3 =>
  L4 std p_0 ρ0 ρ2 0 ω3 (q5 std R)) := E_eq std p_0 w R
theorem drawsOk : drawsOk PP cfg okD (codeOf Try.f98) = true := by kernel_rfl
theorem calls (p_0 : Sl) {w : World} {R : Ending → World → Prop} (h : E std p_0 w R) : Calls PP F.spec_l19Insert #[Sl.v p_0] w R :=
  calls_of noCount mixed drawOk Try.func98 rfl (c := cfg) (args := [Sl.v p_0]) rfl (Nat.le_of_ble_eq_true (by kernel_rfl)) drawsOk h
end spec_l19Insert

namespace spec_InsertPerm
@[reducible] def cfg : Cfg := ⟨19, [], [], [], [2, 3, 4], [], [101, 107, 112, 15, 21, 124, 76, 137, 28, 115, 91, 81, 130], [138, 140, 82, 6, 86, 85, 132]⟩
def E (pr : Prims) (p_0 : Sl) (w : World) (R : Ending → World → Prop) : Prop :=
  wpC pr PP cfg (DD pr) (codeOf Try.f45) (retQ Try.f45.results.toList R) (argE 0 [Sl.v p_0]) w
theorem E_eq (pr : Prims) (p_0 : Sl) (w : World) (R : Ending → World → Prop) : E pr p_0 w R = (
  pr.call1 .bool PP F.spec_IsPerm #[Sl.v p_0] w fun (ρ0 : Bool) ω1 =>
  bif !ρ0 then (
  pr.sem1 .sl PP (Instr.buildSlice T_SSint 0 #[]) ω1 fun (ρ2 : Sl) ω3 =>
  pr.sem1 .sl PP (Instr.buildSlice T_SSint 0 #[]) ω3 fun (ρ4 : Sl) ω5 =>
  R (.returned (.tuple #[Sl.v ρ2, Sl.v ρ4, .bool false])) ω5)
  else (
  pr.call2 .sl .sl PP F.spec_l19Insert #[Sl.v p_0] ω1 fun (ρ6 : Sl) (ρ7 : Sl) ω8 =>
  R (.returned (.tuple #[Sl.v ρ6, Sl.v ρ7, .bool true])) ω8)) := by kernel_rfl
theorem E_s (p_0 : Sl) (w : World) (R : Ending → World → Prop) : E std p_0 w R = (
  call1 .bool PP F.spec_IsPerm #[Sl.v p_0] w fun (ρ0 : Bool) ω1 =>
  bif !ρ0 then (
  sem1 .sl PP (Instr.buildSlice T_SSint 0 #[]) ω1 fun (ρ2 : Sl) ω3 =>
  sem1 .sl PP (Instr.buildSlice T_SSint 0 #[]) ω3 fun (ρ4 : Sl) ω5 =>
  R (.returned (.tuple #[Sl.v ρ2, Sl.v ρ4, .bool false])) ω5)
  else (
  call2 .sl .sl PP F.spec_l19Insert #[Sl.v p_0] ω1 fun (ρ6 : Sl) (ρ7 : Sl) ω8 =>
  R (.returned (.tuple #[Sl.v ρ6, Sl.v ρ7, .bool true])) ω8)) := E_eq std p_0 w R
theorem drawsOk : drawsOk PP cfg okD (codeOf Try.f45) = true := by kernel_rfl
theorem calls (p_0 : Sl) {w : World} {R : Ending → World → Prop} (h : E std p_0 w R) : Calls PP F.spec_InsertPerm #[Sl.v p_0] w R :=
  calls_of noCount mixed drawOk Try.func45 rfl (c := cfg) (args := [Sl.v p_0]) rfl (Nat.le_of_ble_eq_true (by kernel_rfl)) drawsOk h
end spec_InsertPerm

end Go.Proofs.Ytdchjhhpbdekeaa

/- Which blocks a slice of rows stands on, and what a step does to them. -/
namespace Go.Proofs.Ytdchjhhpbdekeaa
open Go Go.RowKit
set_option maxRecDepth 100000

/-- The blocks of a slice of rows. -/
def foot (s : Sl) (rs : List Sl) (g : Nat) : Prop := s.blk = some g ∨ ∃ r ∈ rs, r.blk = some g
theorem OwnRows.footLt {w B s rs LL} (h : OwnRows w B s rs LL) {g : Nat} (hg : foot s rs g) : B ≤ g ∧ g < w.heap.size := by
  rcases hg with hg | ⟨r, hr, hg⟩
  · exact h.out.lt g hg
  · exact h.lt hr hg
theorem OwnRows.keepsF {S : Nat → Prop} {w w' B s rs LL} (h : OwnRows w B s rs LL) (hk : Keeps S w w') (hd : ∀ g, foot s rs g → ¬ S g) : OwnRows w' B s rs LL :=
  h.keeps hk (fun g hg => hd g (.inl hg)) (fun r hr g hg => hd g (.inr ⟨r, hr, hg⟩))
/-- A step that writes S alone, and what S becomes: nothing but S and what is new. -/
structure Stp (w w' : World) (S S' : Nat → Prop) : Prop where
  keeps : Keeps S w w'
  next : ∀ g, S' g → S g ∨ w.heap.size ≤ g
theorem Stp.refl (w : World) (S : Nat → Prop) : Stp w w S S := ⟨Keeps.refl _ _, fun _ h => .inl h⟩
theorem Stp.trans {a b c : World} {S T U : Nat → Prop} (h : Stp a b S T) (k : Stp b c T U) : Stp a c S U := by
  refine ⟨⟨k.keeps.os.trans h.keeps.os, k.keeps.tape.trans h.keeps.tape, k.keeps.output.trans h.keeps.output, Nat.le_trans h.keeps.size k.keeps.size, fun x hx hn => ?_⟩, fun g hg => ?_⟩
  · rw [k.keeps.block x (Nat.lt_of_lt_of_le hx h.keeps.size) fun ht => ?_]
    · exact h.keeps.block x hx hn
    · rcases h.next x ht with h1 | h1
      · exact hn h1
      · omega
  · rcases k.next g hg with h1 | h1
    · exact h.next g h1
    · have := h.keeps.size; exact .inr (by omega)
/-- What stands on other blocks stays apart. -/
theorem Stp.apart {w w' : World} {S S' F : Nat → Prop} (h : Stp w w' S S') (hF : ∀ g, F g → g < w.heap.size) (hd : ∀ g, S g → ¬ F g) : ∀ g, S' g → ¬ F g := fun g h1 h2 => by
  rcases h.next g h1 with h3 | h3
  · exact hd g h3 h2
  · have := hF g h2; omega
theorem Stp.grow {w w' : World} {S : Nat → Prop} (h : Below w.heap.size w w') : Stp w w' S S := ⟨(keeps_grown (grow_of_below h)).mono (fun k e => by cases e), fun _ h => .inl h⟩
theorem Stp.below {w w' : World} {S S' : Nat → Prop} {B : Nat} (h : Stp w w' S S') (hS : ∀ g, S g → B ≤ g) (hB : B ≤ w.heap.size) : Below B w w' := h.keeps.below hS hB

theorem getElem?_getD {LL : List (List Int)} {i : Nat} (hi : i < LL.length) : LL[i]? = some (LL.getD i []) := by simp [List.getD_eq_getElem?_getD, List.getElem?_eq_getElem hi]
/-- 'rows[i] = append(rows[i], x)'. -/
theorem OwnRows.appendAtF {w B s rs LL} (h : OwnRows w B s rs LL) {i : Int} (h0 : 0 ≤ i) (hi : i < LL.length) (hB : B ≤ w.heap.size) (hlen : (LL.getD i.toNat []).length < 2^39) {x : Int} {K : World → Prop}
    (hk : ∀ w' rs', OwnRows w' B s rs' (LL.set i.toNat (LL.getD i.toNat [] ++ [x])) → Stp w w' (foot s rs) (foot s rs') → K w') :
    idxK 1 s i fun a => load1 .sl a w fun (t : Sl) => sem1 .sl PP (Instr.buildSlice T_Sint 1 #[(0, vI x)]) w fun (ρ : Sl) w1 => sem1 .sl PP (Builtin.append_ #[T_Sint, T_Sint] T_Sint #[t.v, ρ.v]) w1 fun (t' : Sl) w2 =>
      idxK 1 s i fun a2 => storeC a2 t'.v w2 K := by
  obtain ⟨t, h1, h2⟩ := h.get (i := i.toNat) (by omega)
  refine Row.get (sh := .sl) (r := t) h.out.row h0 (by rw [List.getElem?_map, h1]; rfl) ?_
  refine append_int h2 hB hlen ?_
  intro t' w5 ht' hg5 hn5
  have hs5 : Own w5 B T_Sint s (rs.map Sl.v) := h.out.kept hg5 fun g hg' e => (h.out.apt h2 (by decide)) g hg' e
  refine Own.put hs5 h0 (by rw [List.length_map, h.len]; exact hi) (v := t'.v) ?_
  intro w6 ho6 hg6 _
  have hm : t ∈ rs := List.mem_of_getElem? h1
  refine hk w6 _ (h.setNew h1 hg5 ht' hn5 ho6 hg6 rfl) ⟨?_, fun g hg => ?_⟩
  · exact ((keeps_grown hg5).mono (fun k e => .inr ⟨t, hm, e⟩)).trans ((keeps_grown hg6).mono (fun k e => .inl e))
  · rcases hg with hg | ⟨r, hr, hg⟩
    · exact .inl (.inl hg)
    · rcases List.mem_or_eq_of_mem_set hr with hr | rfl
      · exact .inl (.inr ⟨r, hr, hg⟩)
      · rcases hn5 g hg with h3 | h3
        · exact .inl (.inr ⟨t, hm, h3⟩)
        · exact .inr h3
/-- 'rows[i][c] = x'. -/
theorem OwnRows.setAtF {w B s rs LL} (h : OwnRows w B s rs LL) {i c : Int} (h0 : 0 ≤ i) (hi : i < LL.length) (hc0 : 0 ≤ c) (hc : c < (LL.getD i.toNat []).length) {x : Int} {K : World → Prop}
    (hk : ∀ w', OwnRows w' B s rs (LL.set i.toNat ((LL.getD i.toNat []).set c.toNat x)) → Stp w w' (foot s rs) (foot s rs) → w'.heap.size = w.heap.size → K w') :
    idxK 1 s i fun a => load1 .sl a w fun (t : Sl) => idxK 1 t c fun a2 => storeC a2 (vI x) w K := by
  obtain ⟨t, h1, h2⟩ := h.get (i := i.toNat) (by omega)
  refine Row.get (sh := .sl) (r := t) h.out.row h0 (by rw [List.getElem?_map, h1]; rfl) ?_
  refine Own.put h2 hc0 (by rw [List.length_map]; exact hc) ?_
  intro w6 ho6 hg6 hs6
  refine hk w6 (h.inside h1 (by simpa [OwnI, List.map_set] using ho6) hg6) ⟨?_, fun g hg => .inl hg⟩ hs6
  exact (keeps_grown hg6).mono (fun k e => .inr ⟨t, List.mem_of_getElem? h1, e⟩)
theorem foot_push {w w' : World} {s s' : Sl} {rs : List Sl} {r : Sl} {C : Nat} (hg : w.grownBy w' s.blk) (hn : Next w s s') (hC : C ≤ w.heap.size) (hr : ∀ g, r.blk = some g → C ≤ g) : Keeps (foot s rs) w w' ∧ ∀ g, foot s' (rs ++ [r]) g → foot s rs g ∨ C ≤ g := by
  refine ⟨(keeps_grown hg).mono (fun k e => .inl e), fun g hg => ?_⟩
  rcases hg with hg | ⟨t, ht, hg⟩
  · rcases hn g hg with h1 | h1
    · exact .inl (.inl h1)
    · exact .inr (by omega)
  · rcases List.mem_append.1 ht with ht | ht
    · exact .inl (.inr ⟨t, ht, hg⟩)
    · simp at ht; subst ht; exact .inr (hr g hg)
/-- 'append(rows, row)', the row made by this step. -/
theorem OwnRows.pushF {w0 w : World} {B : Nat} {s : Sl} {rs : List Sl} {LL : List (List Int)} {r : Sl} {L : List Int} (h0 : OwnRows w0 B s rs LL) (hb : Below w0.heap.size w0 w) (hB : B ≤ w0.heap.size) (hr : OwnI w B r L) (hrn : ∀ g, r.blk = some g → w0.heap.size ≤ g) (hn : LL.length < 2^39) {K : Sl → World → Prop}
    (hk : ∀ s' w', OwnRows w' B s' (rs ++ [r]) (LL ++ [L]) → Stp w0 w' (foot s rs) (foot s' (rs ++ [r])) → K s' w') :
    sem1 .sl PP (Instr.buildSlice T_SSint 1 #[(0, r.v)]) w fun t w1 => sem1 .sl PP (Builtin.append_ #[T_SSint, T_SSint] T_SSint #[s.v, t.v]) w1 K := by
  refine append_sl (h0.grow hb) (Nat.le_trans hB hb.size) hr (fun t ht => Apt.of_lt (fun g hg => (h0.lt ht hg).2) hrn) hn fun s' w' h1 h2 h3 => hk s' w' h1 ?_
  obtain ⟨k1, k2⟩ := foot_push (rs := rs) h2 h3 hb.size hrn
  exact ⟨((Stp.grow (S := foot s rs) hb).keeps).trans k1, k2⟩
end Go.Proofs.Ytdchjhhpbdekeaa
