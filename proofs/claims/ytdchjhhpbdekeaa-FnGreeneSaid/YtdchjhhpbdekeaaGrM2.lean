/- The texts Draw, OpenB, CodeGG, CodeGz, Gz, Code, L1 in one (gmerge.py). -/
import Derived.Laws.Tables
import Derived.ChangeSlices
import Derived.WideShapes
import Derived.Test.YtdchjhhpbdekeaaGrM1
/- The draws: a cursor over the bytes handed in, numbers below a bound, permutations, and lists that are permutations mostly. -/
namespace Go.Proofs.Ytdchjhhpbdekeaa
open Go Go.RowKit
set_option maxRecDepth 100000

/-! ### Bytes -/
@[reducible] def vB (n : Int) : Value := .int .u8 n
/-- A row of bytes. -/
@[reducible] def RowB (w : World) (s : Sl) (L : List Int) : Prop := Row w s (L.map vB)
theorem RowB.get {w s L} (h : RowB w s L) {i : Int} (h0 : 0 ≤ i) (hi : i < L.length) {K : Int → Prop} (hk : K (L.getD i.toNat 0)) : idxK 1 s i fun a => load1 (.int .u8) a w K := by
  have hlt : i.toNat < L.length := by omega
  refine Row.get (sh := .int .u8) (r := L.getD i.toNat 0) h h0 ?_ hk
  simp [List.getD_eq_getElem?_getD, List.getElem?_eq_getElem hlt]
theorem wrap_and (a : Int) (m : Nat) (hm : m < 2^63) : 0 ≤ bAnd .i64 a m ∧ bAnd .i64 a m ≤ m := by
  unfold bAnd
  have h : (BitVec.ofInt IntKind.i64.bits a &&& BitVec.ofInt IntKind.i64.bits (m : Int)).toNat ≤ m := by
    rw [BitVec.toNat_and]
    refine Nat.le_trans Nat.and_le_right ?_
    simp [IntKind.bits]
    exact Nat.mod_le _ _
  have e : IntKind.i64.wrap (((BitVec.ofInt IntKind.i64.bits a &&& BitVec.ofInt IntKind.i64.bits (m : Int)).toNat : Nat) : Int) = ((BitVec.ofInt IntKind.i64.bits a &&& BitVec.ofInt IntKind.i64.bits (m : Int)).toNat : Nat) := w64_id (by omega) (by omega)
  rw [e]
  omega

/-! ### The cursor -/
structure Cur (w0 w : World) (c : Addr) : Prop where
  ex : ∃ (b : Sl) (L : List Int) (g : Nat) (i h : Int), c = ⟨g, 0, none⟩ ∧ RowB w0 b L ∧ L.length < 2^60 ∧ w0.heap.size ≤ g ∧ w.heap[g]? = some (.cells #[b.v, vI i, vI h] T_spec_l1Cur (0, 0)) ∧ 0 ≤ i ∧ i ≤ L.length
  below : Below w0.heap.size w0 w
/-- The cursor's block. -/
def CS (c : Addr) (k : Nat) : Prop := k = c.block
theorem Cur.lt {w0 w c} (h : Cur w0 w c) : w0.heap.size ≤ c.block ∧ c.block < w.heap.size := by
  obtain ⟨b, L, g, i, hh, rfl, _, _, h1, h2, _⟩ := h.ex
  exact ⟨h1, (Array.getElem?_eq_some_iff.1 h2).1⟩
theorem Cur.keeps {w0 w w' c} {S : Nat → Prop} (h : Cur w0 w c) (hk : Keeps S w w') (hS : ∀ k, S k → w0.heap.size ≤ k ∧ k ≠ c.block) : Cur w0 w' c := by
  have hl := h.lt
  refine ⟨?_, h.below.trans (hk.below (fun k hk => (hS k hk).1) h.below.size)⟩
  obtain ⟨b, L, g, i, hh, rfl, h1, h2, h3, h4, h5⟩ := h.ex
  refine ⟨b, L, g, i, hh, rfl, h1, h2, h3, ?_, h5⟩
  rw [hk.block g hl.2 (fun hs => (hS g hs).2 rfl)]; exact h4
theorem Cur.grow {w0 w w' c} (h : Cur w0 w c) (hb : Below w.heap.size w w') : Cur w0 w' c :=
  h.keeps (keeps_grown (grow_of_below hb)) (fun k hk => by cases hk)
theorem keeps_below {w w' : World} (hb : Below w.heap.size w w') (S : Nat → Prop) : Keeps S w w' := (keeps_grown (grow_of_below hb)).mono (fun k e => by cases e)
/-- What was made behind the cursor stays while the cursor moves. -/
theorem Own.curs {w w' B e s vs c} (h : Own w B e s vs) (hk : Keeps (CS c) w w') (hc : c.block < B) : Own w' B e s vs :=
  h.keeps hk fun g hg hs => by have := (h.lt g hg).1; unfold CS at hs; omega
theorem cur_load {w : World} {g k : Nat} {cs : Array Value} {t : TypeId} (hg : w.heap[g]? = some (.cells cs t (0, 0))) {s : Sh} {r : s.T} (hc : cs[k]? = some (s.enc r)) {K : s.T → Prop} (hk : K r) : load1 s ((⟨g, 0, none⟩ : Addr).add k) w K := by
  refine ⟨r, ?_, hk⟩
  rw [add_lit, cell_of_row w g (0 + k) cs t (0, 0) hg, Nat.zero_add]
  exact hc
theorem cur_store {w : World} {g k : Nat} {cs : Array Value} {t : TypeId} (hg : w.heap[g]? = some (.cells cs t (0, 0))) (hk : k < cs.size) {v : Value} {K : World → Prop}
    (h : ∀ w', w'.heap[g]? = some (.cells (cs.setIfInBounds k v) t (0, 0)) → Keeps (fun x => x = g) w w' → w'.heap.size = w.heap.size → K w') : storeC ((⟨g, 0, none⟩ : Addr).add k) v w K := by
  rw [add_lit, Nat.zero_add]
  have hcell := cell_of_row w g k cs t (0, 0) hg
  refine ⟨⟨cs[k], by rw [hcell]; simp [hk]⟩, by simp [World.frozen?, hg], h _ ?_ ⟨rfl, rfl, rfl, by simp [World.setCell], fun x hx hne => Below.heap_setCell _ _ _ _ (fun e => hne e)⟩ (by simp [World.setCell])⟩
  simp [World.setCell, Array.getElem?_modify, hg]

theorem c_l1New {w : World} {a : Sl} {L : List Int} (ha : RowB w a L) (hL : L.length < 2^60) :
    Calls PP F.spec_l1New #[a.v] w fun e w' => ∃ c, e = .returned (.pointer (some c)) ∧ Cur w w' c := by
  have han : a.n = L.length := by have := ha.n; simpa using this
  refine spec_l1New.calls a ?_
  rw [spec_l1New.E_s]
  have fin : ∀ h R, (∀ c w', Cur w w' c → R (.returned (.pointer (some c))) w') → spec_l1New.q1 std R (.exit 0) (spec_l1New.x0 a h) w := by
    intro h R hR
    rw [spec_l1New.A3_0_s]
    refine ⟨_, fun w => run_build w _ _ #[a.v, vI 0, vI h] (by kernel_rfl), ?_⟩
    refine hR _ _ ⟨⟨a, L, w.heap.size, 0, h, rfl, ha, hL, Nat.le_refl _, heap_alloc_new w _, by omega, by omega⟩, below_of_grow (World.grownBy_alloc w _ none)⟩
  refine spec_l1New.L3_rule _ _ _ _ _ (I := fun h i w' => w' = w ∧ 0 ≤ i ∧ i ≤ L.length) (μ := fun _ i _ => (L.length - i).toNat) ⟨rfl, by omega, by omega⟩ ?_
  rintro h i w' ⟨rfl, h0, hi⟩
  rw [spec_l1New.B3_s, han]
  refine bif_dec (fun h3 => ?_) (fun h3 => ?_)
  · refine bif_dec (fun h4 => ?_) (fun h4 => ?_)
    · refine RowB.get ha h0 (by omega) ?_
      exact ⟨_, i + 1, by rw [w64_succ h0 (by omega)], ⟨rfl, by omega, by omega⟩, by omega⟩
    · exact fin _ _ (fun c w' hc => ⟨c, rfl, hc⟩)
  · exact fin _ _ (fun c w' hc => ⟨c, rfl, hc⟩)

theorem c_l1Byte {w0 w : World} {c : Addr} (hc : Cur w0 w c) :
    Calls PP F.spec_l1Byte #[.pointer (some c)] w fun e w' => ∃ x : Int, e = .returned (vI x) ∧ 0 ≤ x ∧ x ≤ 255 ∧ Cur w0 w' c ∧ Keeps (CS c) w w' := by
  have hlt := hc.lt
  have hbel := hc.below
  obtain ⟨b, L, g, i, h, rfl, hb, hL, hg, hcell, hi0, hi⟩ := hc.ex
  have hbn : b.n = L.length := by have := hb.n; simpa using this
  refine spec_l1Byte.calls ⟨g, 0, none⟩ ?_
  rw [spec_l1Byte.E_s]
  refine cur_load hcell (s := .int .i64) (r := h) (by rfl) ?_
  refine cur_store hcell (by simp) ?_
  intro w1 hg1 hk1 hs1
  have hb1 : Below w0.heap.size w0 w1 := hbel.trans (hk1.below (fun k e => by rw [e]; exact hg) hbel.size)
  generalize w64 (w64 (h * 6364136223846793005) + 1442695040888963407) = h' at hg1
  have hg1 : w1.heap[g]? = some (.cells #[b.v, vI i, vI h'] T_spec_l1Cur (0, 0)) := hg1
  refine cur_load hg1 (s := .int .i64) (r := h') (by rfl) ?_
  refine ⟨by omega, ?_⟩
  refine cur_load hg1 (s := .int .i64) (r := h') (by rfl) ?_
  refine ⟨by omega, ?_⟩
  refine drew_intro fun w4 hd4 => ?_
  have hg4 : w4.heap[g]? = some (.cells #[b.v, vI i, vI h'] T_spec_l1Cur (0, 0)) := by rw [hd4.heap']; exact hg1
  refine cur_load hg4 (s := .int .i64) (r := i) (by rfl) ?_
  refine cur_load hg4 (s := .sl) (r := b) (by rfl) ?_
  refine drew_intro fun w8 hd8 => ?_
  have hd18 := hd4.trans hd8
  have hg8 : w8.heap[g]? = some (.cells #[b.v, vI i, vI h'] T_spec_l1Cur (0, 0)) := by rw [hd18.heap']; exact hg1
  have hb8 : Below w0.heap.size w0 w8 := hb1.trans (hd18.below _)
  have hk8 : Keeps (CS ⟨g, 0, none⟩) w w8 := (hk1.mono fun k e => e).trans (hd18.keeps _)
  have hm := fun a => wrap_and a 255 (by decide)
  rw [hbn]
  refine bif_dec (fun h3 => ?_) (fun h3 => ?_)
  · refine cur_load hg8 (s := .sl) (r := b) (by rfl) ?_
    refine cur_load hg8 (s := .int .i64) (r := i) (by rfl) ?_
    refine RowB.get (hb.grow hb8) hi0 (by omega) ?_
    refine drew_intro fun w13 hd13 => ?_
    have hg13 : w13.heap[g]? = some (.cells #[b.v, vI i, vI h'] T_spec_l1Cur (0, 0)) := by rw [hd13.heap']; exact hg8
    refine cur_load hg13 (s := .int .i64) (r := i) (by rfl) ?_
    refine cur_store hg13 (by simp) ?_
    intro w15 hg15 hk15 hs15
    rw [w64_succ hi0 (by omega)] at hg15
    rw [spec_l1Byte.J6_s]
    have hb13 := hb8.trans (hd13.below w0.heap.size)
    refine ⟨_, rfl, (hm _).1, (hm _).2, ⟨⟨b, L, g, i + 1, h', rfl, hb, hL, hg, hg15, by omega, by omega⟩, hb13.trans (hk15.below (fun k e => by rw [e]; exact hg) hb13.size)⟩, (hk8.trans (hd13.keeps _)).trans (hk15.mono fun k e => e)⟩
  · rw [spec_l1Byte.J6_s]
    exact ⟨_, rfl, (hm _).1, (hm _).2, ⟨⟨b, L, g, i, h', rfl, hb, hL, hg, hg8, hi0, hi⟩, hb8⟩, hk8⟩

theorem c_l1Below {w0 w : World} {c : Addr} (hc : Cur w0 w c) {n : Int} (hn : n ≤ 256) :
    Calls PP F.spec_l1Below #[.pointer (some c), vI n] w fun e w' => ∃ x : Int, e = .returned (vI x) ∧ 0 ≤ x ∧ (x < n ∨ x = 0) ∧ Cur w0 w' c ∧ Keeps (CS c) w w' := by
  refine spec_l1Below.calls c n ?_
  rw [spec_l1Below.E_s]
  refine bif_dec (fun h => ?_) (fun h => ?_)
  · exact ⟨0, rfl, by omega, .inr rfl, hc, Keeps.refl _ _⟩
  refine bif_dec (fun h2 => ?_) (fun h2 => absurd hn h2)
  refine (c_l1Byte hc).mono ?_
  rintro e w1 ⟨x, rfl, h0, h1, hc1, hk1⟩
  refine ⟨x, rfl, by omega, ?_⟩
  have e1 : x.tmod n = x % n := Int.tmod_eq_emod_of_nonneg h0
  refine ⟨_, rfl, ?_, .inl ?_, hc1, hk1⟩
  · rw [e1]; exact Int.emod_nonneg _ (by omega)
  · rw [e1]; exact Int.emod_lt_of_pos _ (by omega)
theorem c_l1Once {w0 w : World} {c : Addr} (hc : Cur w0 w c) {n : Int} (hn : n ≤ 256) :
    Calls PP F.spec_l1Once #[.pointer (some c), vI n] w fun e w' => ∃ b : Bool, e = .returned (.bool b) ∧ Cur w0 w' c ∧ Keeps (CS c) w w' := by
  refine spec_l1Once.calls c n ?_
  rw [spec_l1Once.E_s]
  refine (c_l1Below hc hn).mono ?_
  rintro e w1 ⟨x, rfl, h0, h1, hc1, hk1⟩
  exact ⟨x, rfl, _, rfl, hc1, hk1⟩
theorem c_l1PickInt {w0 w : World} {c : Addr} (hc : Cur w0 w c) {s : Sl} {L : List Int} (hs : ∀ w', Keeps (CS c) w w' → RowI w' s L) (h1 : 0 < L.length) (h2 : L.length ≤ 256) :
    Calls PP F.spec_l1PickInt #[.pointer (some c), s.v] w fun e w' => ∃ x : Int, e = .returned (vI x) ∧ x ∈ L ∧ Cur w0 w' c ∧ Keeps (CS c) w w' := by
  have hsn : s.n = L.length := by have := (hs w (Keeps.refl _ _)).n; simpa using this
  refine spec_l1PickInt.calls c s ?_
  rw [spec_l1PickInt.E_s, hsn]
  refine (c_l1Below hc (by omega)).mono ?_
  rintro e w1 ⟨x, rfl, h0, h3, hc1, hk1⟩
  refine ⟨x, rfl, ?_⟩
  refine RowI.get (hs w1 hk1) h0 (by omega) ?_
  have hlt : x.toNat < L.length := by omega
  exact ⟨_, rfl, by simp [List.getD_eq_getElem?_getD, List.getElem?_eq_getElem hlt], hc1, hk1⟩

/-! ### Permutations -/
def upTo (n : Nat) : List Int := (List.range n).map fun (i : Nat) => (i : Int) + 1
theorem upTo_succ (n : Nat) : upTo (n + 1) = upTo n ++ [(n : Int) + 1] := by simp [upTo, List.range_succ]
theorem upTo_length (n : Nat) : (upTo n).length = n := by simp [upTo]
theorem ins_perm {L : List Int} {n at_ : Nat} (h : L.Perm (upTo n)) : (L.take at_ ++ [(n : Int) + 1] ++ L.drop at_).Perm (upTo (n + 1)) := by
  rw [upTo_succ]
  refine List.Perm.trans ?_ (List.Perm.append_right _ h)
  rw [List.append_assoc]
  have h1 : (L.take at_ ++ ([(n : Int) + 1] ++ L.drop at_)).Perm (L.take at_ ++ (L.drop at_ ++ [(n : Int) + 1])) := List.Perm.append_left _ List.perm_append_comm
  have h2 : L.take at_ ++ (L.drop at_ ++ [(n : Int) + 1]) = L ++ [(n : Int) + 1] := by rw [← List.append_assoc, List.take_append_drop]
  rwa [h2] at h1
theorem upTo_mem {n : Nat} {x : Int} : x ∈ upTo n ↔ 1 ≤ x ∧ x ≤ n := by
  simp only [upTo, List.mem_map, List.mem_range]
  constructor
  · rintro ⟨i, hi, rfl⟩; omega
  · rintro ⟨h1, h2⟩; exact ⟨(x - 1).toNat, by omega, by omega⟩

theorem c_l2Draw {w0 w : World} {c : Addr} (hc : Cur w0 w c) {n : Nat} (hn : n ≤ 200) :
    Calls PP F.spec_l2Draw #[.pointer (some c), vI n] w fun e w' => ∃ (s : Sl) (L : List Int), e = .returned s.v ∧ OwnI w' w.heap.size s L ∧ L.Perm (upTo n) ∧ Cur w0 w' c ∧ Keeps (CS c) w w' := by
  have hcl := hc.lt
  refine spec_l2Draw.calls c n ?_
  rw [spec_l2Draw.E_s]
  refine lit0 oneInt (B := w.heap.size) (Nat.le_refl _) ?_
  intro o w1 ho hg1 _
  have hb1 := below_of_grow hg1
  refine spec_l2Draw.L3_rule _ _ _ _ _ _ (I := fun o k w' => 1 ≤ k ∧ k ≤ n + 1 ∧ Cur w0 w' c ∧ Keeps (CS c) w w' ∧ ∃ L : List Int, OwnI w' w.heap.size o L ∧ L.Perm (upTo (k - 1).toNat)) (μ := fun _ k _ => (n + 1 - k).toNat)
    ⟨by omega, by omega, hc.grow hb1, keeps_below hb1 _, [], by simpa [OwnI] using ho, by simp [upTo]⟩ ?_
  rintro o k w2 ⟨hk1, hk, hc2, hkp2, L, hoL, hp⟩
  have hlen : L.length = (k - 1).toNat := by rw [hp.length_eq, upTo_length]
  have hon : o.n = L.length := by have := hoL.n; simpa using this
  rw [spec_l2Draw.B3_s]
  refine bif_dec (fun h3 => ?_) (fun h3 => ?_)
  · rw [hon, w64_id (n := (L.length : Int) + 1) (by omega) (by omega)]
    refine (c_l1Below hc2 (by omega)).mono ?_
    rintro e w3 ⟨at_, rfl, h0, h1, hc3, hk3⟩
    refine ⟨at_, rfl, ?_⟩
    have h1 : at_ ≤ L.length := by omega
    have ho3 : OwnI w3 w.heap.size o L := Own.curs hoL hk3 hcl.2
    have hkp3 := hkp2.trans hk3
    have hsz3 := hkp3.size
    refine lit0 oneInt (B := w3.heap.size) (Nat.le_refl _) ?_
    intro r w4 hr hg4 _
    have hb34 := below_of_grow hg4
    have ho4 := Own.grow ho3 hb34
    refine Row.cut ho4.row (by simpa using h0) (by simp <;> omega) (by simp <;> omega) fun s16 hs16 => ?_
    have e2 : (List.take ((none : Option Int).getD (o.n : Int)).toNat (L.map vI)).drop ((some at_).getD 0).toNat = (L.drop at_.toNat).map vI := by
      rw [hon]; simp [List.map_drop, List.take_of_length_le]
    rw [e2] at hs16
    refine append_row oneInt hr (by have := hb34.size; omega) hs16 (fun v hv => by obtain ⟨x, _, rfl⟩ := List.mem_map.1 hv; exact One.int x) (by simp; omega) ?_
    intro r2 w5 hr2 hg5 _ _
    rw [List.nil_append] at hr2
    have hb35 := hb34.grown hg5 hb34.size (fun g hg => (hr.lt g hg).1)
    have ho5 := Own.grow ho3 hb35
    have hc5 := hc3.grow hb35
    have hkp5 := hkp3.trans (keeps_below hb35 (CS c))
    refine Own.pop ho5 h0 (by rw [List.length_map]; omega) fun s20 hs20 hblk => ?_
    rw [← List.map_take] at hs20
    have hs20 : OwnI w5 w.heap.size s20 (L.take at_.toNat) := hs20
    refine append_int hs20 hkp5.size (by rw [List.length_take]; omega) ?_
    intro o7 w7 ho7 hg7 hn7
    have h57 : Below w.heap.size w5 w7 := (Below.refl _ _).grown hg7 hkp5.size (fun g hg => (hs20.lt g hg).1)
    have hc7 := hc5.keeps (keeps_grown hg7) (fun k hk => by have := (hs20.lt k hk).1; omega)
    have hlt3 : ∀ g, o.blk = some g → g < w3.heap.size := fun g hg => (ho3.lt g hg).2
    have hr7 : Own w7 w3.heap.size T_int r2 ((L.drop at_.toNat).map vI) := Own.keeps hr2 (keeps_grown hg7) (fun g hg hg2 => by
      rw [hblk] at hg2; have := hlt3 g hg2; have := (hr2.lt g hg).1; omega)
    refine append_row oneInt ho7 (Nat.le_trans hkp5.size h57.size) hr7.row (fun v hv => by obtain ⟨x, _, rfl⟩ := List.mem_map.1 hv; exact One.int x) (by simp; omega) ?_
    intro o8 w8 ho8 hg8 _ _
    rw [← List.map_append] at ho8
    have h78 : Below w.heap.size w7 w8 := (Below.refl _ _).grown hg8 (Nat.le_trans hkp5.size h57.size) (fun g hg => (ho7.lt g hg).1)
    have hc8 := hc7.keeps (keeps_grown hg8) (fun k hk => by have := (ho7.lt k hk).1; omega)
    have hkp8 : Keeps (CS c) w w8 := by
      have h58 := h57.trans h78
      exact ⟨h58.os.trans hkp5.os, h58.tape.trans hkp5.tape, h58.output.trans hkp5.output, Nat.le_trans hkp5.size h58.size, fun x hx hn => (h58.block x hx).trans (hkp5.block x hx hn)⟩
    refine ⟨o8, k + 1, by rw [w64_succ (by omega) (by omega)], ⟨by omega, by omega, hc8, hkp8, _, ho8, ?_⟩, by omega⟩
    have := ins_perm (at_ := at_.toNat) hp
    rw [show (((k - 1).toNat : Nat) : Int) + 1 = k by omega, show (k - 1).toNat + 1 = (k + 1 - 1).toNat by omega] at this
    exact this
  · rw [spec_l2Draw.A3_0_s]
    rw [show (k - 1).toNat = n by omega] at hp
    exact ⟨o, L, rfl, hoL, hp, hc2, hkp2⟩
/-- A literal of ints. -/
theorem litL {w : World} {B : Nat} (hB : B ≤ w.heap.size) (n : Nat) (parts : Array (Nat × Value)) (L : List Int) (h0 : 0 < n) (hn : L.length = n) (hm : n ≤ 1000)
    (hf : Instr.fill (fun i => some (i * 1, 1)) ((Array.range (n * 1)).map ((vI 0).cells[· % (vI 0).cells.size]!)) parts.toList = some (L.map vI).toArray) {K : Sl → World → Prop}
    (h : ∀ s w', OwnI w' B s L → Below w.heap.size w w' → K s w') : sem1 .sl PP (Instr.buildSlice T_Sint n parts) w K := by
  obtain ⟨i, hu, hi, hz, hs, hb, hzc⟩ := oneInt
  have hrun : (Instr.buildSlice T_Sint n parts).run PP w = .ok (.slice (some ⟨w.heap.size, 0, none⟩) n n) (w.alloc (.cells (L.map vI).toArray T_int)) := by
    refine run_buildSlice w T_Sint T_int n parts (L.map vI).toArray i (vI 0) hu hi hz (by rw [hs]; omega) (by rw [hs]; omega) ?_
    rw [hs]
    exact hf
  exact ⟨⟨some ⟨w.heap.size, 0, none⟩, n, n⟩, _, hrun, h _ _ ⟨by simp [hn], Nat.le_refl _, by simp only [maxLen]; omega, .inr ⟨_, _, rfl, hB, heap_alloc_new w _, by simp [hn], by
    show (L.map vI).toArray.toList.take n = L.map vI
    exact List.take_of_length_le (by simp [hn])⟩⟩ (below_of_grow (World.grownBy_alloc w _ none))⟩
theorem c_l2Any {w0 w : World} {c : Addr} (hc : Cur w0 w c) :
    Calls PP F.spec_l2Any #[.pointer (some c)] w fun e w' => ∃ (s : Sl) (L : List Int) (n : Nat), e = .returned s.v ∧ OwnI w' w.heap.size s L ∧ L.Perm (upTo n) ∧ n ≤ 8 ∧ Cur w0 w' c ∧ Keeps (CS c) w w' := by
  have hcl := hc.lt
  refine spec_l2Any.calls c ?_
  rw [spec_l2Any.E_s]
  refine litL (B := w.heap.size) (Nat.le_refl _) 11 _ [0, 1, 2, 3, 4, 5, 5, 6, 6, 7, 8] (by omega) rfl (by omega) (by kernel_rfl) ?_
  intro t w1 ht hb1
  have hc1 := hc.grow hb1
  refine (c_l1PickInt hc1 (L := [0, 1, 2, 3, 4, 5, 5, 6, 6, 7, 8]) (fun w' hk => (Own.curs ht hk hcl.2).row) (by simp) (by simp)).mono ?_
  rintro e w2 ⟨x, rfl, hx, hc2, hk2⟩
  refine ⟨x, rfl, ?_⟩
  have hx : 0 ≤ x ∧ x ≤ 8 := by simp at hx; omega
  obtain ⟨n, rfl⟩ : ∃ n : Nat, x = n := ⟨x.toNat, by omega⟩
  have hk02 := (keeps_below hb1 (CS c)).trans hk2
  refine (c_l2Draw hc2 (n := n) (by omega)).mono ?_
  rintro e w3 ⟨s, L, rfl, hs, hp, hc3, hk3⟩
  exact ⟨s, rfl, s, L, n, rfl, hs.mono hk02.size, hp, by omega, hc3, hk02.trans hk3⟩
/-- What a list is that is a permutation mostly. -/
def Bent (L : List Int) : Prop := L.length ≤ 9 ∧ ∀ x ∈ L, -1 ≤ x ∧ x ≤ 11
theorem bent_of {L : List Int} {n : Nat} (h : L.Perm (upTo n)) (hn : n ≤ 8) : L.length ≤ 8 ∧ ∀ x ∈ L, -1 ≤ x ∧ x ≤ 11 :=
  ⟨by rw [h.length_eq, upTo_length]; exact hn, fun x hx => by have := upTo_mem.1 (h.mem_iff.1 hx); omega⟩
theorem c_l2Bent {w0 w : World} {c : Addr} (hc : Cur w0 w c) :
    Calls PP F.spec_l2Bent #[.pointer (some c)] w fun e w' => ∃ (s : Sl) (L : List Int), e = .returned s.v ∧ OwnI w' w.heap.size s L ∧ Bent L ∧ Cur w0 w' c ∧ Keeps (CS c) w w' := by
  have hcl := hc.lt
  refine spec_l2Bent.calls c ?_
  rw [spec_l2Bent.E_s]
  refine (c_l2Any hc).mono ?_
  rintro e w1 ⟨s, L, n, rfl, hs, hp, hn, hc1, hk1⟩
  refine ⟨s, rfl, ?_⟩
  obtain ⟨hl, hx⟩ := bent_of hp hn
  have hsn : s.n = L.length := by have := hs.n; simpa using this
  refine (c_l1Below hc1 (n := 14) (by omega)).mono ?_
  rintro e w2 ⟨x, rfl, _, _, hc2, hk2⟩
  refine ⟨x, rfl, ?_⟩
  have hs2 := Own.curs hs hk2 hcl.2
  have hk12 := hk1.trans hk2
  have asis : ∃ (t : Sl) (M : List Int), Ending.returned s.v = .returned t.v ∧ OwnI w2 w.heap.size t M ∧ Bent M ∧ Cur w0 w2 c ∧ Keeps (CS c) w w2 := ⟨s, L, rfl, hs2, ⟨by omega, hx⟩, hc2, hk12⟩
  refine bif_intro (fun h => ?_) (fun h => ?_)
  · refine (c_l1Below hc2 (n := 12) (by omega)).mono ?_
    rintro e w3 ⟨y, rfl, hy0, hy1, hc3, hk3⟩
    refine ⟨y, rfl, ?_⟩
    have hk13 := hk12.trans hk3
    have ey := w64_id (n := y - 1) (by omega) (by omega)
    dsimp only
    rw [ey]
    refine append_int (Own.curs hs2 hk3 hcl.2) hk13.size (by omega) ?_
    intro s' w4 hs' hg4 _
    have hs3 := Own.curs hs2 hk3 hcl.2
    refine ⟨s', _, rfl, hs', ⟨by simp; omega, fun z hz => ?_⟩, hc3.keeps (keeps_grown hg4) (fun k hk => by have := (hs3.lt k hk).1; omega), ?_⟩
    · rcases List.mem_append.1 hz with hz | hz
      · exact hx z hz
      · simp at hz; omega
    · have h34 : Below w.heap.size w3 w4 := (Below.refl _ _).grown hg4 hk13.size (fun g hg => (hs3.lt g hg).1)
      exact ⟨h34.os.trans hk13.os, h34.tape.trans hk13.tape, h34.output.trans hk13.output, Nat.le_trans hk13.size h34.size, fun x hx hn => (h34.block x hx).trans (hk13.block x hx hn)⟩
  · refine bif_intro (fun h => ?_) (fun h => ?_)
    · refine bif_dec (fun h4 => ?_) (fun h4 => ?_)
      · refine (c_l1Below hc2 (n := 11) (by omega)).mono ?_
        rintro e w3 ⟨y, rfl, hy0, hy1, hc3, hk3⟩
        refine ⟨y, rfl, ?_⟩
        have hk13 := hk12.trans hk3
        have hs3 := Own.curs hs2 hk3 hcl.2
        have ey := w64_id (n := y - 1) (by omega) (by omega)
        dsimp only
        rw [ey]
        refine Own.put hs3 (by omega) (by rw [List.length_map]; omega) ?_
        intro w4 ho4 hg4 _
        have ho4 : OwnI w4 w.heap.size s (L.set 0 (y - 1)) := by simpa [OwnI, List.map_set] using ho4
        refine ⟨s, _, rfl, ho4, ⟨by simp; omega, fun z hz => ?_⟩, hc3.keeps (keeps_grown hg4) (fun k hk => by have := (hs3.lt k hk).1; omega), ?_⟩
        · rcases List.mem_or_eq_of_mem_set hz with hz | hz
          · exact hx z hz
          · omega
        · have h34 : Below w.heap.size w3 w4 := (Below.refl _ _).grown hg4 hk13.size (fun g hg => (hs3.lt g hg).1)
          exact ⟨h34.os.trans hk13.os, h34.tape.trans hk13.tape, h34.output.trans hk13.output, Nat.le_trans hk13.size h34.size, fun x hx hn => (h34.block x hx).trans (hk13.block x hx hn)⟩
      · exact asis
    · exact asis
/-- A draw of such a list, of the bytes handed in. -/
def Drawn (w : World) (e : Ending) (w' : World) : Prop := ∃ (s : Sl) (L : List Int), e = .returned s.v ∧ OwnI w' w.heap.size s L ∧ Bent L ∧ Below w.heap.size w w'
theorem c_bentOf {w : World} {a : Sl} {L : List Int} (ha : RowB w a L) (hL : L.length < 2^60) {K : Sl → World → Prop} (hk : ∀ s M w', OwnI w' w.heap.size s M → Bent M → Below w.heap.size w w' → K s w') :
    call1 .ptr PP F.spec_l1New #[a.v] w fun (c : Option Addr) w1 => call1 .sl PP F.spec_l2Bent #[.pointer c] w1 K := by
  refine (c_l1New ha hL).mono ?_
  rintro e w1 ⟨c, rfl, hc⟩
  refine ⟨some c, rfl, ?_⟩
  refine (c_l2Bent hc).mono ?_
  rintro e w2 ⟨s, M, rfl, hs, hM, hc2, hk2⟩
  exact ⟨s, rfl, hk s M w2 (hs.mono hc.below.size) hM hc2.below⟩
end Go.Proofs.Ytdchjhhpbdekeaa

/- What the statement hands in: an argument's reading as a row of bytes. -/
namespace Go.Proofs.Ytdchjhhpbdekeaa
open Go Go.RowKit Go.ChangeShapes Go.WideShapes

theorem trod_bytes {P : Program} {H : Type} {enc : TypeId × Value → H} {W : World} {r : Reach} {b0 : Nat} {t e : TypeId} {v : Value} {d : DataW H} {ps : List MemPlace} (ht : P.underlying t = some (.slice e)) (he : P.underlying e = some (.int .u8)) (hc : P.cellsOf e = 1)
    (hval : Value.okWide P W r b0 t v) (h : DataW.Trod enc P W 0 (fun _ => true) true t v d ps) :
    ∃ (s : Sl) (L : List Int), v = s.v ∧ RowB W s L ∧ L.length ≤ maxLen := by
  obtain ⟨a, len, cap, rfl⟩ := okWide_slice ht hval
  obtain ⟨fuel, hf⟩ := h
  rcases open_ints ht he hc hf with ⟨hcs, hx⟩ | ⟨ad, len', cap', zs, hcs, _, hl, hm, hz, hx, hcell, hw⟩
  · simp [Value.cells] at hcs
    obtain ⟨rfl, rfl, rfl⟩ := hcs
    exact ⟨Sl.nil, [], rfl, ⟨rfl, Nat.le_refl _, fun i v hv => by simp at hv⟩, by simp⟩
  · simp [Value.cells] at hcs
    obtain ⟨rfl, rfl, rfl⟩ := hcs
    have hzl : zs.length = cap := by simpa using hz
    refine ⟨⟨some ad, len, cap⟩, zs.take len, rfl, ⟨by simp; omega, hl, fun i u hu => ⟨ad, rfl, ?_⟩⟩, by simp; omega⟩
    rw [List.getElem?_map, List.getElem?_take] at hu
    split at hu
    · rename_i hi
      have := hcell i (by omega)
      rw [this]
      rw [List.getElem?_eq_getElem (by omega)] at hu
      simp at hu
      rw [← hu]
      simp [List.getD_eq_getElem?_getD, List.getElem?_eq_getElem (show i < zs.length by omega)]
    · simp at hu
end Go.Proofs.Ytdchjhhpbdekeaa

/- What each function does, step by step, written by a program (Gen.lean); each equation is checked by the kernel. -/
namespace Go.Proofs.Ytdchjhhpbdekeaa
open Go
set_option linter.unusedVariables false
set_option maxRecDepth 100000
namespace laws_FnGreene
@[reducible] def cfg : Cfg := ⟨173, [(20, [3, 4, 5, 13, 14, 15, 16])], [(1, [3, 4, 5, 13, 14, 15, 16]), (0, [3, 5, 13, 14, 15])], [(9, [3, 4, 5, 6, 7, 8, 9, 10, 81]), (10, [3, 4, 5, 6, 7, 8, 9, 10]), (11, [3, 4, 5, 6, 7, 106]), (12, [3, 4, 5, 6, 7]), (13, [3, 4, 5, 120]), (14, [3, 4, 5]), (22, [3, 4, 5, 13, 14, 15, 16]), (26, [3, 5, 13, 14, 15, 17])], [2], [], [101, 107, 112, 15, 21, 124, 76, 137, 28, 115, 91, 81, 130], [138, 140, 82, 6, 86, 85, 132]⟩
def q14 (pr : Prims) (R : Ending → World → Prop) : Exit → Env → World → Prop := fun ex e w => normQ ex (fun e w => contE pr cfg (sub (codeOf Try.f4) [1, 1, 1, 1, 1, 1, 1, 1]) (fun e w => wpC pr PP cfg (DD pr) (sub (codeOf Try.f4) [1, 1, 1, 1, 1, 1, 1, 1]) (retQ Try.f4.results.toList R) e w) e w) (retQ Try.f4.results.toList R) e w
def q15 (pr : Prims) (R : Ending → World → Prop) : Exit → Env → World → Prop := fun ex e w => normQ ex (fun e w => contE pr cfg (sub (codeOf Try.f4) [1, 1, 1, 1, 1, 1, 1, 0, 1]) (fun e w => wpC pr PP cfg (DD pr) (sub (codeOf Try.f4) [1, 1, 1, 1, 1, 1, 1, 0, 1]) (q14 pr R) e w) e w) (q14 pr R) e w
def q18 (pr : Prims) (R : Ending → World → Prop) : Exit → Env → World → Prop := fun ex e w => normQ ex (fun e w => contE pr cfg (sub (codeOf Try.f4) [1, 1, 1, 1, 1, 1, 1, 1, 1]) (fun e w => wpC pr PP cfg (DD pr) (sub (codeOf Try.f4) [1, 1, 1, 1, 1, 1, 1, 1, 1]) (retQ Try.f4.results.toList R) e w) e w) (retQ Try.f4.results.toList R) e w
def q19 (pr : Prims) (R : Ending → World → Prop) : Exit → Env → World → Prop := fun ex e w => normQ ex (fun e w => contE pr cfg (sub (codeOf Try.f4) [1, 1, 1, 1, 1, 1, 1, 1, 0, 1]) (fun e w => wpC pr PP cfg (DD pr) (sub (codeOf Try.f4) [1, 1, 1, 1, 1, 1, 1, 1, 0, 1]) (q18 pr R) e w) e w) (q18 pr R) e w
def q24 (pr : Prims) (R : Ending → World → Prop) : Exit → Env → World → Prop := fun ex e w => normQ ex (fun e w => contE pr cfg (sub (codeOf Try.f4) [1, 1, 1, 1, 1, 1, 1, 1, 1, 1]) (fun e w => wpC pr PP cfg (DD pr) (sub (codeOf Try.f4) [1, 1, 1, 1, 1, 1, 1, 1, 1, 1]) (retQ Try.f4.results.toList R) e w) e w) (retQ Try.f4.results.toList R) e w
def q25 (pr : Prims) (R : Ending → World → Prop) : Exit → Env → World → Prop := fun ex e w => normQ ex (fun e w => contE pr cfg (sub (codeOf Try.f4) [1, 1, 1, 1, 1, 1, 1, 1, 1, 0, 1]) (fun e w => wpC pr PP cfg (DD pr) (sub (codeOf Try.f4) [1, 1, 1, 1, 1, 1, 1, 1, 1, 0, 1]) (q24 pr R) e w) e w) (q24 pr R) e w
def q36 (pr : Prims) (R : Ending → World → Prop) : Exit → Env → World → Prop := fun ex e w => normQ ex (fun e w => contE pr cfg (sub (codeOf Try.f4) [1, 1, 1, 1, 1, 1, 1, 1, 1, 1, 1, 1, 1, 1, 1]) (fun e w => wpC pr PP cfg (DD pr) (sub (codeOf Try.f4) [1, 1, 1, 1, 1, 1, 1, 1, 1, 1, 1, 1, 1, 1, 1]) (retQ Try.f4.results.toList R) e w) e w) (retQ Try.f4.results.toList R) e w
def q37 (pr : Prims) (R : Ending → World → Prop) : Exit → Env → World → Prop := fun ex e w => blockQ ex 0 (q36 pr R) e w
def q38 (pr : Prims) (k : Env → World → Prop) (Q : Exit → Env → World → Prop) : Exit → Env → World → Prop := fun ex e w => normQ ex (fun e w => contE pr cfg (sub (codeOf Try.f4) [1, 1, 1, 1, 1, 1, 1, 1, 1, 1, 1, 1, 1, 1, 0, 1, 0, 0, 1]) (fun e w => wpC pr PP cfg (DD pr) (sub (codeOf Try.f4) [1, 1, 1, 1, 1, 1, 1, 1, 1, 1, 1, 1, 1, 1, 0, 1, 0, 0, 1]) (fun ex e w => normQ ex (fun e' w' => k (Env.restr e' (lookN cfg.loops (keyOf (sub (codeOf Try.f4) [1, 1, 1, 1, 1, 1, 1, 1, 1, 1, 1, 1, 1, 1, 0, 1, 0, 0])))) w') Q e w) e w) e w) (fun ex e w => normQ ex (fun e' w' => k (Env.restr e' (lookN cfg.loops (keyOf (sub (codeOf Try.f4) [1, 1, 1, 1, 1, 1, 1, 1, 1, 1, 1, 1, 1, 1, 0, 1, 0, 0])))) w') Q e w) e w
def q41 (pr : Prims) (R : Ending → World → Prop) : Exit → Env → World → Prop := fun ex e w => normQ ex (fun e w => contE pr cfg (sub (codeOf Try.f4) [1, 1, 1, 1, 1, 1, 1, 1, 1, 1, 1, 1, 1, 1, 1, 1, 1]) (fun e w => wpC pr PP cfg (DD pr) (sub (codeOf Try.f4) [1, 1, 1, 1, 1, 1, 1, 1, 1, 1, 1, 1, 1, 1, 1, 1, 1]) (retQ Try.f4.results.toList R) e w) e w) (retQ Try.f4.results.toList R) e w
def j9 (p_3 : Sl) (k_4 : Int) (n_5 : Int) (q_6 : Sl) (l_7 : Sl) (r_8 : Sl) (a_9 : Int) (b_10 : Int) (t81 : Bool) : Env := [(3, Sl.v p_3), (4, vI k_4), (5, vI n_5), (6, Sl.v q_6), (7, Sl.v l_7), (8, Sl.v r_8), (9, vI a_9), (10, vI b_10), (81, .bool t81)]
def j10 (p_3 : Sl) (k_4 : Int) (n_5 : Int) (q_6 : Sl) (l_7 : Sl) (r_8 : Sl) (a_9 : Int) (b_10 : Int) : Env := [(3, Sl.v p_3), (4, vI k_4), (5, vI n_5), (6, Sl.v q_6), (7, Sl.v l_7), (8, Sl.v r_8), (9, vI a_9), (10, vI b_10)]
def j11 (p_3 : Sl) (k_4 : Int) (n_5 : Int) (q_6 : Sl) (l_7 : Sl) (t106 : Bool) : Env := [(3, Sl.v p_3), (4, vI k_4), (5, vI n_5), (6, Sl.v q_6), (7, Sl.v l_7), (106, .bool t106)]
def j12 (p_3 : Sl) (k_4 : Int) (n_5 : Int) (q_6 : Sl) (l_7 : Sl) : Env := [(3, Sl.v p_3), (4, vI k_4), (5, vI n_5), (6, Sl.v q_6), (7, Sl.v l_7)]
def j13 (p_3 : Sl) (k_4 : Int) (n_5 : Int) (t120 : Bool) : Env := [(3, Sl.v p_3), (4, vI k_4), (5, vI n_5), (120, .bool t120)]
def j14 (p_3 : Sl) (k_4 : Int) (n_5 : Int) : Env := [(3, Sl.v p_3), (4, vI k_4), (5, vI n_5)]
def emb20 (p_3 : Sl) (k_4 : Int) (n_5 : Int) (ok_13 : Bool) (form_14 : Sl) (sum_15 : Int) (i_16 : Int) : Env := [(3, Sl.v p_3), (4, vI k_4), (5, vI n_5), (13, .bool ok_13), (14, Sl.v form_14), (15, vI sum_15), (16, vI i_16)]
def j22 (p_3 : Sl) (k_4 : Int) (n_5 : Int) (ok_13 : Bool) (form_14 : Sl) (sum_15 : Int) (i_16 : Int) : Env := [(3, Sl.v p_3), (4, vI k_4), (5, vI n_5), (13, .bool ok_13), (14, Sl.v form_14), (15, vI sum_15), (16, vI i_16)]
def x0 (p_3 : Sl) (n_5 : Int) (ok_13 : Bool) (form_14 : Sl) (sum_15 : Int) : Env := [(3, Sl.v p_3), (5, vI n_5), (13, .bool ok_13), (14, Sl.v form_14), (15, vI sum_15)]
def j26 (p_3 : Sl) (n_5 : Int) (ok_13 : Bool) (form_14 : Sl) (sum_15 : Int) (first_17 : Int) : Env := [(3, Sl.v p_3), (5, vI n_5), (13, .bool ok_13), (14, Sl.v form_14), (15, vI sum_15), (17, vI first_17)]
def S20 (pr : Prims) (Q : Exit → Env → World → Prop) : (Env → World → Prop) → Env → World → Prop := fun k e w => wpC pr PP cfg (DD pr) (sub (codeOf Try.f4) [1, 1, 1, 1, 1, 1, 1, 1, 1, 1, 1, 1, 1, 1, 0, 1, 0, 0]) (fun ex e w => normQ ex (fun e' w' => k (Env.restr e' (lookN cfg.loops (keyOf (sub (codeOf Try.f4) [1, 1, 1, 1, 1, 1, 1, 1, 1, 1, 1, 1, 1, 1, 0, 1, 0, 0])))) w') Q e w) e w
def J22 (pr : Prims) (p_3 : Sl) (k_4 : Int) (n_5 : Int) (ok_13 : Bool) (form_14 : Sl) (sum_15 : Int) (i_16 : Int) (w : World) (k : Env → World → Prop) (Q : Exit → Env → World → Prop) : Prop :=
  pr.seg (fun e w => wpC pr PP cfg (DD pr) (sub (codeOf Try.f4) [1, 1, 1, 1, 1, 1, 1, 1, 1, 1, 1, 1, 1, 1, 0, 1, 0, 0, 1]) (fun ex e w => normQ ex (fun e' w' => k (Env.restr e' (lookN cfg.loops (keyOf (sub (codeOf Try.f4) [1, 1, 1, 1, 1, 1, 1, 1, 1, 1, 1, 1, 1, 1, 0, 1, 0, 0])))) w') Q e w) e w) (j22 p_3 k_4 n_5 ok_13 form_14 sum_15 i_16) w
def B20 (pr : Prims) (p_3 : Sl) (k_4 : Int) (n_5 : Int) (ok_13 : Bool) (form_14 : Sl) (sum_15 : Int) (i_16 : Int) (w : World) (k : Env → World → Prop) (Q : Exit → Env → World → Prop) : Prop :=
  S20 pr Q k (emb20 p_3 k_4 n_5 ok_13 form_14 sum_15 i_16) w
def L20 (pr : Prims) (p_3 : Sl) (k_4 : Int) (n_5 : Int) (ok_13 : Bool) (form_14 : Sl) (sum_15 : Int) (i_16 : Int) (w : World) (Q : Exit → Env → World → Prop) : Prop :=
  pr.loop (S20 pr Q) (emb20 p_3 k_4 n_5 ok_13 form_14 sum_15 i_16) w
def J26 (pr : Prims) (p_3 : Sl) (n_5 : Int) (ok_13 : Bool) (form_14 : Sl) (sum_15 : Int) (first_17 : Int) (w : World) (R : Ending → World → Prop) : Prop :=
  pr.seg (fun e w => wpC pr PP cfg (DD pr) (sub (codeOf Try.f4) [1, 1, 1, 1, 1, 1, 1, 1, 1, 1, 1, 1, 1, 1, 1, 1, 1]) (retQ Try.f4.results.toList R) e w) (j26 p_3 n_5 ok_13 form_14 sum_15 first_17) w
def J14 (pr : Prims) (p_3 : Sl) (k_4 : Int) (n_5 : Int) (w : World) (R : Ending → World → Prop) : Prop :=
  pr.seg (fun e w => wpC pr PP cfg (DD pr) (sub (codeOf Try.f4) [1, 1, 1, 1, 1, 1, 1, 1, 1, 1]) (retQ Try.f4.results.toList R) e w) (j14 p_3 k_4 n_5) w
def J13 (pr : Prims) (p_3 : Sl) (k_4 : Int) (n_5 : Int) (t120 : Bool) (w : World) (R : Ending → World → Prop) : Prop :=
  pr.seg (fun e w => wpC pr PP cfg (DD pr) (sub (codeOf Try.f4) [1, 1, 1, 1, 1, 1, 1, 1, 1, 0, 1]) (q24 pr R) e w) (j13 p_3 k_4 n_5 t120) w
def J12 (pr : Prims) (p_3 : Sl) (k_4 : Int) (n_5 : Int) (q_6 : Sl) (l_7 : Sl) (w : World) (R : Ending → World → Prop) : Prop :=
  pr.seg (fun e w => wpC pr PP cfg (DD pr) (sub (codeOf Try.f4) [1, 1, 1, 1, 1, 1, 1, 1, 1]) (retQ Try.f4.results.toList R) e w) (j12 p_3 k_4 n_5 q_6 l_7) w
def J11 (pr : Prims) (p_3 : Sl) (k_4 : Int) (n_5 : Int) (q_6 : Sl) (l_7 : Sl) (t106 : Bool) (w : World) (R : Ending → World → Prop) : Prop :=
  pr.seg (fun e w => wpC pr PP cfg (DD pr) (sub (codeOf Try.f4) [1, 1, 1, 1, 1, 1, 1, 1, 0, 1]) (q18 pr R) e w) (j11 p_3 k_4 n_5 q_6 l_7 t106) w
def J10 (pr : Prims) (p_3 : Sl) (k_4 : Int) (n_5 : Int) (q_6 : Sl) (l_7 : Sl) (r_8 : Sl) (a_9 : Int) (b_10 : Int) (w : World) (R : Ending → World → Prop) : Prop :=
  pr.seg (fun e w => wpC pr PP cfg (DD pr) (sub (codeOf Try.f4) [1, 1, 1, 1, 1, 1, 1, 1]) (retQ Try.f4.results.toList R) e w) (j10 p_3 k_4 n_5 q_6 l_7 r_8 a_9 b_10) w
def J9 (pr : Prims) (p_3 : Sl) (k_4 : Int) (n_5 : Int) (q_6 : Sl) (l_7 : Sl) (r_8 : Sl) (a_9 : Int) (b_10 : Int) (t81 : Bool) (w : World) (R : Ending → World → Prop) : Prop :=
  pr.seg (fun e w => wpC pr PP cfg (DD pr) (sub (codeOf Try.f4) [1, 1, 1, 1, 1, 1, 1, 0, 1]) (q14 pr R) e w) (j9 p_3 k_4 n_5 q_6 l_7 r_8 a_9 b_10 t81) w
def E (pr : Prims) (code_0 : Sl) (w : World) (R : Ending → World → Prop) : Prop :=
  wpC pr PP cfg (DD pr) (codeOf Try.f4) (retQ Try.f4.results.toList R) (argE 0 [Sl.v code_0]) w
theorem J22_gen (pr : Prims) (p_3 : Sl) (k_4 : Int) (n_5 : Int) (ok_13 : Bool) (form_14 : Sl) (sum_15 : Int) (i_16 : Int) (w : World) (k : Env → World → Prop) (Q : Exit → Env → World → Prop) : wpC pr PP cfg (DD pr) (sub (codeOf Try.f4) [1, 1, 1, 1, 1, 1, 1, 1, 1, 1, 1, 1, 1, 1, 0, 1, 0, 0, 1]) (fun ex e w => normQ ex (fun e' w' => k (Env.restr e' (lookN cfg.loops (keyOf (sub (codeOf Try.f4) [1, 1, 1, 1, 1, 1, 1, 1, 1, 1, 1, 1, 1, 1, 0, 1, 0, 0])))) w') Q e w) (j22 p_3 k_4 n_5 ok_13 form_14 sum_15 i_16) w = (
  pr.idxK 1 form_14 i_16 fun (a39 : Addr) =>
  pr.load1 (.int .i64) a39 w fun (ξ40 : Int) =>
  k (emb20 p_3 k_4 n_5 ok_13 form_14 (w64 (sum_15 + ξ40)) (w64 (i_16 + 1))) w) := by kernel_rfl
theorem J22_s (p_3 : Sl) (k_4 : Int) (n_5 : Int) (ok_13 : Bool) (form_14 : Sl) (sum_15 : Int) (i_16 : Int) (w : World) (k : Env → World → Prop) (Q : Exit → Env → World → Prop) : J22 std p_3 k_4 n_5 ok_13 form_14 sum_15 i_16 w k Q = (
  idxK 1 form_14 i_16 fun (a39 : Addr) =>
  load1 (.int .i64) a39 w fun (ξ40 : Int) =>
  k (emb20 p_3 k_4 n_5 ok_13 form_14 (w64 (sum_15 + ξ40)) (w64 (i_16 + 1))) w) := J22_gen std p_3 k_4 n_5 ok_13 form_14 sum_15 i_16 w k Q
theorem B20_eq (pr : Prims) (p_3 : Sl) (k_4 : Int) (n_5 : Int) (ok_13 : Bool) (form_14 : Sl) (sum_15 : Int) (i_16 : Int) (w : World) (k : Env → World → Prop) (Q : Exit → Env → World → Prop) : B20 pr p_3 k_4 n_5 ok_13 form_14 sum_15 i_16 w k Q = (
  bif decide (i_16 < k_4) then (
  bif decide (i_16 < (form_14.n : Int)) then (
  J22 pr p_3 k_4 n_5 ok_13 form_14 sum_15 i_16 w k Q)
  else (
  Q (.exit 0) (x0 p_3 n_5 ok_13 form_14 sum_15) w))
  else (
  Q (.exit 0) (x0 p_3 n_5 ok_13 form_14 sum_15) w)) := by kernel_rfl
theorem B20_s (p_3 : Sl) (k_4 : Int) (n_5 : Int) (ok_13 : Bool) (form_14 : Sl) (sum_15 : Int) (i_16 : Int) (w : World) (k : Env → World → Prop) (Q : Exit → Env → World → Prop) : B20 std p_3 k_4 n_5 ok_13 form_14 sum_15 i_16 w k Q = (
  bif decide (i_16 < k_4) then (
  bif decide (i_16 < (form_14.n : Int)) then (
  J22 std p_3 k_4 n_5 ok_13 form_14 sum_15 i_16 w k Q)
  else (
  Q (.exit 0) (x0 p_3 n_5 ok_13 form_14 sum_15) w))
  else (
  Q (.exit 0) (x0 p_3 n_5 ok_13 form_14 sum_15) w)) := B20_eq std p_3 k_4 n_5 ok_13 form_14 sum_15 i_16 w k Q
theorem L20_rule (p_3 : Sl) (k_4 : Int) (n_5 : Int) (ok_13 : Bool) (form_14 : Sl) (sum_15 : Int) (i_16 : Int) (w : World) (Q : Exit → Env → World → Prop) (I : Int → Int → World → Prop) (μ : Int → Int → World → Nat) (h0 : I sum_15 i_16 w)
    (h : ∀ (sum_15 : Int) (i_16 : Int) (w' : World), I sum_15 i_16 w' → B20 std p_3 k_4 n_5 ok_13 form_14 sum_15 i_16 w' (fun e2 w2 => ∃ sum_15_n i_16_n, e2 = emb20 p_3 k_4 n_5 ok_13 form_14 sum_15_n i_16_n ∧ I sum_15_n i_16_n w2 ∧ μ sum_15_n i_16_n w2 < μ sum_15 i_16 w') Q) :
    L20 std p_3 k_4 n_5 ok_13 form_14 sum_15 i_16 w Q := by
  unfold L20
  refine LoopE.intro (σ := Int × Int) (step := S20 std Q) (fun s => emb20 p_3 k_4 n_5 ok_13 form_14 s.1 s.2) (fun s w => I s.1 s.2 w) (fun s w => μ s.1 s.2 w) (sum_15, i_16) rfl h0 ?_
  intro s w' hI
  have h1 := h s.1 s.2 w' hI
  unfold B20 at h1
  simp only [Prod.exists]
  exact h1
theorem J26_gen (pr : Prims) (p_3 : Sl) (n_5 : Int) (ok_13 : Bool) (form_14 : Sl) (sum_15 : Int) (first_17 : Int) (w : World) (R : Ending → World → Prop) : wpC pr PP cfg (DD pr) (sub (codeOf Try.f4) [1, 1, 1, 1, 1, 1, 1, 1, 1, 1, 1, 1, 1, 1, 1, 1, 1]) (retQ Try.f4.results.toList R) (j26 p_3 n_5 ok_13 form_14 sum_15 first_17) w = (
  bif ok_13 then (
  bif sum_15 == n_5 then (
  pr.call1 (.int .i64) PP F.impl_LongestUp #[Sl.v p_3] w fun (ρ44 : Int) ω45 =>
  bif ρ44 == first_17 then (
  pr.call1 (.int .i64) PP F.impl_LongestDown #[Sl.v p_3] ω45 fun (ρ46 : Int) ω47 =>
  R (.returned (.bool (ρ46 == (form_14.n : Int)))) ω47)
  else (
  R (.returned (.bool false)) ω45))
  else (
  R (.returned (.bool false)) w))
  else (
  R (.returned (.bool false)) w)) := by kernel_rfl
theorem J26_s (p_3 : Sl) (n_5 : Int) (ok_13 : Bool) (form_14 : Sl) (sum_15 : Int) (first_17 : Int) (w : World) (R : Ending → World → Prop) : J26 std p_3 n_5 ok_13 form_14 sum_15 first_17 w R = (
  bif ok_13 then (
  bif sum_15 == n_5 then (
  call1 (.int .i64) PP F.impl_LongestUp #[Sl.v p_3] w fun (ρ44 : Int) ω45 =>
  bif ρ44 == first_17 then (
  call1 (.int .i64) PP F.impl_LongestDown #[Sl.v p_3] ω45 fun (ρ46 : Int) ω47 =>
  R (.returned (.bool (ρ46 == (form_14.n : Int)))) ω47)
  else (
  R (.returned (.bool false)) ω45))
  else (
  R (.returned (.bool false)) w))
  else (
  R (.returned (.bool false)) w)) := J26_gen std p_3 n_5 ok_13 form_14 sum_15 first_17 w R
theorem A20_0_eq (pr : Prims) (p_3 : Sl) (n_5 : Int) (ok_13 : Bool) (form_14 : Sl) (sum_15 : Int) (w : World) (R : Ending → World → Prop) : (q37 pr R) (.exit 0) (x0 p_3 n_5 ok_13 form_14 sum_15) w = (
  bif decide ((form_14.n : Int) > 0) then (
  pr.idxK 1 form_14 0 fun (a42 : Addr) =>
  pr.load1 (.int .i64) a42 w fun (ξ43 : Int) =>
  J26 pr p_3 n_5 ok_13 form_14 sum_15 ξ43 w R)
  else (
  J26 pr p_3 n_5 ok_13 form_14 sum_15 0 w R)) := by kernel_rfl
theorem A20_0_s (p_3 : Sl) (n_5 : Int) (ok_13 : Bool) (form_14 : Sl) (sum_15 : Int) (w : World) (R : Ending → World → Prop) : (q37 std R) (.exit 0) (x0 p_3 n_5 ok_13 form_14 sum_15) w = (
  bif decide ((form_14.n : Int) > 0) then (
  idxK 1 form_14 0 fun (a42 : Addr) =>
  load1 (.int .i64) a42 w fun (ξ43 : Int) =>
  J26 std p_3 n_5 ok_13 form_14 sum_15 ξ43 w R)
  else (
  J26 std p_3 n_5 ok_13 form_14 sum_15 0 w R)) := A20_0_eq std p_3 n_5 ok_13 form_14 sum_15 w R
theorem J14_gen (pr : Prims) (p_3 : Sl) (k_4 : Int) (n_5 : Int) (w : World) (R : Ending → World → Prop) : wpC pr PP cfg (DD pr) (sub (codeOf Try.f4) [1, 1, 1, 1, 1, 1, 1, 1, 1, 1]) (retQ Try.f4.results.toList R) (j14 p_3 k_4 n_5) w = (
  bif decide (n_5 < 0) then (
  R (.returned (.bool true)) w)
  else (
  pr.call3 .sl .sl .bool PP F.spec_InsertPerm #[Sl.v p_3] w fun (ρ30 : Sl) (ρ31 : Sl) (ρ32 : Bool) ω33 =>
  pr.call1 .sl PP F.spec_FormOf #[Sl.v ρ30] ω33 fun (ρ34 : Sl) ω35 =>
  L20 pr p_3 k_4 n_5 ρ32 ρ34 0 0 ω35 (q37 pr R))) := by kernel_rfl
theorem J14_s (p_3 : Sl) (k_4 : Int) (n_5 : Int) (w : World) (R : Ending → World → Prop) : J14 std p_3 k_4 n_5 w R = (
  bif decide (n_5 < 0) then (
  R (.returned (.bool true)) w)
  else (
  call3 .sl .sl .bool PP F.spec_InsertPerm #[Sl.v p_3] w fun (ρ30 : Sl) (ρ31 : Sl) (ρ32 : Bool) ω33 =>
  call1 .sl PP F.spec_FormOf #[Sl.v ρ30] ω33 fun (ρ34 : Sl) ω35 =>
  L20 std p_3 k_4 n_5 ρ32 ρ34 0 0 ω35 (q37 std R))) := J14_gen std p_3 k_4 n_5 w R
theorem J13_gen (pr : Prims) (p_3 : Sl) (k_4 : Int) (n_5 : Int) (t120 : Bool) (w : World) (R : Ending → World → Prop) : wpC pr PP cfg (DD pr) (sub (codeOf Try.f4) [1, 1, 1, 1, 1, 1, 1, 1, 1, 0, 1]) (q24 pr R) (j13 p_3 k_4 n_5 t120) w = (
  bif t120 then (
  R (.returned (.bool false)) w)
  else (
  J14 pr p_3 k_4 n_5 w R)) := by kernel_rfl
theorem J13_s (p_3 : Sl) (k_4 : Int) (n_5 : Int) (t120 : Bool) (w : World) (R : Ending → World → Prop) : J13 std p_3 k_4 n_5 t120 w R = (
  bif t120 then (
  R (.returned (.bool false)) w)
  else (
  J14 std p_3 k_4 n_5 w R)) := J13_gen std p_3 k_4 n_5 t120 w R
theorem J12_gen (pr : Prims) (p_3 : Sl) (k_4 : Int) (n_5 : Int) (q_6 : Sl) (l_7 : Sl) (w : World) (R : Ending → World → Prop) : wpC pr PP cfg (DD pr) (sub (codeOf Try.f4) [1, 1, 1, 1, 1, 1, 1, 1, 1]) (retQ Try.f4.results.toList R) (j12 p_3 k_4 n_5 q_6 l_7) w = (
  pr.call1 .bool PP F.spec_IsPerm #[Sl.v q_6] w fun (ρ26 : Bool) ω27 =>
  bif ρ26 then (
  pr.call1 (.int .i64) PP F.impl_LongestUp #[Sl.v q_6] ω27 fun (ρ28 : Int) ω29 =>
  bif (l_7.n : Int) != ρ28 then (
  J13 pr p_3 k_4 n_5 true ω29 R)
  else (
  pr.call1 (.int .i64) PP F.impl_CountLongestUp #[Sl.v q_6] ω29 fun (ρ48 : Int) ω49 =>
  J13 pr p_3 k_4 n_5 (decide (ρ48 < 1)) ω49 R))
  else (
  J13 pr p_3 k_4 n_5 false ω27 R)) := by kernel_rfl
theorem J12_s (p_3 : Sl) (k_4 : Int) (n_5 : Int) (q_6 : Sl) (l_7 : Sl) (w : World) (R : Ending → World → Prop) : J12 std p_3 k_4 n_5 q_6 l_7 w R = (
  call1 .bool PP F.spec_IsPerm #[Sl.v q_6] w fun (ρ26 : Bool) ω27 =>
  bif ρ26 then (
  call1 (.int .i64) PP F.impl_LongestUp #[Sl.v q_6] ω27 fun (ρ28 : Int) ω29 =>
  bif (l_7.n : Int) != ρ28 then (
  J13 std p_3 k_4 n_5 true ω29 R)
  else (
  call1 (.int .i64) PP F.impl_CountLongestUp #[Sl.v q_6] ω29 fun (ρ48 : Int) ω49 =>
  J13 std p_3 k_4 n_5 (decide (ρ48 < 1)) ω49 R))
  else (
  J13 std p_3 k_4 n_5 false ω27 R)) := J12_gen std p_3 k_4 n_5 q_6 l_7 w R
theorem J11_gen (pr : Prims) (p_3 : Sl) (k_4 : Int) (n_5 : Int) (q_6 : Sl) (l_7 : Sl) (t106 : Bool) (w : World) (R : Ending → World → Prop) : wpC pr PP cfg (DD pr) (sub (codeOf Try.f4) [1, 1, 1, 1, 1, 1, 1, 1, 0, 1]) (q18 pr R) (j11 p_3 k_4 n_5 q_6 l_7 t106) w = (
  bif t106 then (
  R (.returned (.bool false)) w)
  else (
  J12 pr p_3 k_4 n_5 q_6 l_7 w R)) := by kernel_rfl
theorem J11_s (p_3 : Sl) (k_4 : Int) (n_5 : Int) (q_6 : Sl) (l_7 : Sl) (t106 : Bool) (w : World) (R : Ending → World → Prop) : J11 std p_3 k_4 n_5 q_6 l_7 t106 w R = (
  bif t106 then (
  R (.returned (.bool false)) w)
  else (
  J12 std p_3 k_4 n_5 q_6 l_7 w R)) := J11_gen std p_3 k_4 n_5 q_6 l_7 t106 w R
theorem J10_gen (pr : Prims) (p_3 : Sl) (k_4 : Int) (n_5 : Int) (q_6 : Sl) (l_7 : Sl) (r_8 : Sl) (a_9 : Int) (b_10 : Int) (w : World) (R : Ending → World → Prop) : wpC pr PP cfg (DD pr) (sub (codeOf Try.f4) [1, 1, 1, 1, 1, 1, 1, 1]) (retQ Try.f4.results.toList R) (j10 p_3 k_4 n_5 q_6 l_7 r_8 a_9 b_10) w = (
  pr.call1 .bool PP F.spec_IsPerm #[Sl.v r_8] w fun (ρ20 : Bool) ω21 =>
  bif ρ20 then (
  bif decide (a_9 ≥ 1) then (
  bif decide (b_10 ≥ 1) then (
  bif decide ((r_8.n : Int) > (w64 (a_9 * b_10))) then (
  pr.call1 .bool PP F.impl_HasLongRun #[Sl.v r_8, vI a_9, vI b_10] ω21 fun (ρ22 : Bool) ω23 =>
  J11 pr p_3 k_4 n_5 q_6 l_7 (!ρ22) ω23 R)
  else (
  J11 pr p_3 k_4 n_5 q_6 l_7 false ω21 R))
  else (
  J11 pr p_3 k_4 n_5 q_6 l_7 false ω21 R))
  else (
  J11 pr p_3 k_4 n_5 q_6 l_7 false ω21 R))
  else (
  J11 pr p_3 k_4 n_5 q_6 l_7 false ω21 R)) := by kernel_rfl
theorem J10_s (p_3 : Sl) (k_4 : Int) (n_5 : Int) (q_6 : Sl) (l_7 : Sl) (r_8 : Sl) (a_9 : Int) (b_10 : Int) (w : World) (R : Ending → World → Prop) : J10 std p_3 k_4 n_5 q_6 l_7 r_8 a_9 b_10 w R = (
  call1 .bool PP F.spec_IsPerm #[Sl.v r_8] w fun (ρ20 : Bool) ω21 =>
  bif ρ20 then (
  bif decide (a_9 ≥ 1) then (
  bif decide (b_10 ≥ 1) then (
  bif decide ((r_8.n : Int) > (w64 (a_9 * b_10))) then (
  call1 .bool PP F.impl_HasLongRun #[Sl.v r_8, vI a_9, vI b_10] ω21 fun (ρ22 : Bool) ω23 =>
  J11 std p_3 k_4 n_5 q_6 l_7 (!ρ22) ω23 R)
  else (
  J11 std p_3 k_4 n_5 q_6 l_7 false ω21 R))
  else (
  J11 std p_3 k_4 n_5 q_6 l_7 false ω21 R))
  else (
  J11 std p_3 k_4 n_5 q_6 l_7 false ω21 R))
  else (
  J11 std p_3 k_4 n_5 q_6 l_7 false ω21 R)) := J10_gen std p_3 k_4 n_5 q_6 l_7 r_8 a_9 b_10 w R
theorem J9_gen (pr : Prims) (p_3 : Sl) (k_4 : Int) (n_5 : Int) (q_6 : Sl) (l_7 : Sl) (r_8 : Sl) (a_9 : Int) (b_10 : Int) (t81 : Bool) (w : World) (R : Ending → World → Prop) : wpC pr PP cfg (DD pr) (sub (codeOf Try.f4) [1, 1, 1, 1, 1, 1, 1, 0, 1]) (q14 pr R) (j9 p_3 k_4 n_5 q_6 l_7 r_8 a_9 b_10 t81) w = (
  bif t81 then (
  R (.returned (.bool false)) w)
  else (
  J10 pr p_3 k_4 n_5 q_6 l_7 r_8 a_9 b_10 w R)) := by kernel_rfl
theorem J9_s (p_3 : Sl) (k_4 : Int) (n_5 : Int) (q_6 : Sl) (l_7 : Sl) (r_8 : Sl) (a_9 : Int) (b_10 : Int) (t81 : Bool) (w : World) (R : Ending → World → Prop) : J9 std p_3 k_4 n_5 q_6 l_7 r_8 a_9 b_10 t81 w R = (
  bif t81 then (
  R (.returned (.bool false)) w)
  else (
  J10 std p_3 k_4 n_5 q_6 l_7 r_8 a_9 b_10 w R)) := J9_gen std p_3 k_4 n_5 q_6 l_7 r_8 a_9 b_10 t81 w R
theorem E_eq (pr : Prims) (code_0 : Sl) (w : World) (R : Ending → World → Prop) : E pr code_0 w R = (
  pr.pcall1 .bool PP F.laws_big #[Sl.v code_0] fun (ρ0 : Bool) =>
  bif ρ0 then (
  R (.returned (.bool true)) w)
  else (
  pr.call2 .sl (.int .i64) PP F.spec_DrawUpUnion #[Sl.v code_0] w fun (ρ1 : Sl) (ρ2 : Int) ω3 =>
  pr.call1 (.int .i64) PP F.impl_UpUnion #[Sl.v ρ1, vI ρ2] ω3 fun (ρ4 : Int) ω5 =>
  pr.call1 .sl PP F.spec_DrawFirstLongestUp #[Sl.v code_0] ω5 fun (ρ6 : Sl) ω7 =>
  pr.call1 .sl PP F.impl_FirstLongestUp #[Sl.v ρ6] ω7 fun (ρ8 : Sl) ω9 =>
  pr.call3 .sl (.int .i64) (.int .i64) PP F.spec_DrawHasLongRun #[Sl.v code_0] ω9 fun (ρ10 : Sl) (ρ11 : Int) (ρ12 : Int) ω13 =>
  pr.call1 (.int .i64) PP F.spec_UpUnion #[Sl.v ρ1, vI ρ2] ω13 fun (ρ16 : Int) ω17 =>
  bif ρ4 != ρ16 then (
  J9 pr ρ1 ρ2 ρ4 ρ6 ρ8 ρ10 ρ11 ρ12 true ω17 R)
  else (
  pr.call1 .sl PP F.spec_FirstLongestUp #[Sl.v ρ6] ω17 fun (ρ50 : Sl) ω51 =>
  pr.call1 .bool PP F.laws_sameInts #[Sl.v ρ8, Sl.v ρ50] ω51 fun (ρ52 : Bool) ω53 =>
  bif !ρ52 then (
  J9 pr ρ1 ρ2 ρ4 ρ6 ρ8 ρ10 ρ11 ρ12 true ω53 R)
  else (
  pr.call1 (.int .i64) PP F.impl_CountLongestUp #[Sl.v ρ6] ω53 fun (ρ54 : Int) ω55 =>
  pr.call1 (.int .i64) PP F.spec_CountLongestUp #[Sl.v ρ6] ω55 fun (ρ56 : Int) ω57 =>
  bif ρ54 != ρ56 then (
  J9 pr ρ1 ρ2 ρ4 ρ6 ρ8 ρ10 ρ11 ρ12 true ω57 R)
  else (
  pr.call1 .bool PP F.impl_HasLongRun #[Sl.v ρ10, vI ρ11, vI ρ12] ω57 fun (ρ58 : Bool) ω59 =>
  pr.call1 .bool PP F.spec_HasLongRun #[Sl.v ρ10, vI ρ11, vI ρ12] ω59 fun (ρ60 : Bool) ω61 =>
  bif !(ρ58 == ρ60) then (
  J9 pr ρ1 ρ2 ρ4 ρ6 ρ8 ρ10 ρ11 ρ12 true ω61 R)
  else (
  pr.call1 (.int .i64) PP F.impl_LongestUp #[Sl.v ρ1] ω61 fun (ρ62 : Int) ω63 =>
  pr.call1 (.int .i64) PP F.spec_LongestUp #[Sl.v ρ1] ω63 fun (ρ64 : Int) ω65 =>
  bif ρ62 != ρ64 then (
  J9 pr ρ1 ρ2 ρ4 ρ6 ρ8 ρ10 ρ11 ρ12 true ω65 R)
  else (
  pr.call1 (.int .i64) PP F.impl_LongestDown #[Sl.v ρ1] ω65 fun (ρ66 : Int) ω67 =>
  pr.call1 (.int .i64) PP F.spec_LongestDown #[Sl.v ρ1] ω67 fun (ρ68 : Int) ω69 =>
  J9 pr ρ1 ρ2 ρ4 ρ6 ρ8 ρ10 ρ11 ρ12 (ρ66 != ρ68) ω69 R))))))) := by kernel_rfl
theorem E_s (code_0 : Sl) (w : World) (R : Ending → World → Prop) : E std code_0 w R = (
  pcall1 .bool PP F.laws_big #[Sl.v code_0] fun (ρ0 : Bool) =>
  bif ρ0 then (
  R (.returned (.bool true)) w)
  else (
  call2 .sl (.int .i64) PP F.spec_DrawUpUnion #[Sl.v code_0] w fun (ρ1 : Sl) (ρ2 : Int) ω3 =>
  call1 (.int .i64) PP F.impl_UpUnion #[Sl.v ρ1, vI ρ2] ω3 fun (ρ4 : Int) ω5 =>
  call1 .sl PP F.spec_DrawFirstLongestUp #[Sl.v code_0] ω5 fun (ρ6 : Sl) ω7 =>
  call1 .sl PP F.impl_FirstLongestUp #[Sl.v ρ6] ω7 fun (ρ8 : Sl) ω9 =>
  call3 .sl (.int .i64) (.int .i64) PP F.spec_DrawHasLongRun #[Sl.v code_0] ω9 fun (ρ10 : Sl) (ρ11 : Int) (ρ12 : Int) ω13 =>
  call1 (.int .i64) PP F.spec_UpUnion #[Sl.v ρ1, vI ρ2] ω13 fun (ρ16 : Int) ω17 =>
  bif ρ4 != ρ16 then (
  J9 std ρ1 ρ2 ρ4 ρ6 ρ8 ρ10 ρ11 ρ12 true ω17 R)
  else (
  call1 .sl PP F.spec_FirstLongestUp #[Sl.v ρ6] ω17 fun (ρ50 : Sl) ω51 =>
  call1 .bool PP F.laws_sameInts #[Sl.v ρ8, Sl.v ρ50] ω51 fun (ρ52 : Bool) ω53 =>
  bif !ρ52 then (
  J9 std ρ1 ρ2 ρ4 ρ6 ρ8 ρ10 ρ11 ρ12 true ω53 R)
  else (
  call1 (.int .i64) PP F.impl_CountLongestUp #[Sl.v ρ6] ω53 fun (ρ54 : Int) ω55 =>
  call1 (.int .i64) PP F.spec_CountLongestUp #[Sl.v ρ6] ω55 fun (ρ56 : Int) ω57 =>
  bif ρ54 != ρ56 then (
  J9 std ρ1 ρ2 ρ4 ρ6 ρ8 ρ10 ρ11 ρ12 true ω57 R)
  else (
  call1 .bool PP F.impl_HasLongRun #[Sl.v ρ10, vI ρ11, vI ρ12] ω57 fun (ρ58 : Bool) ω59 =>
  call1 .bool PP F.spec_HasLongRun #[Sl.v ρ10, vI ρ11, vI ρ12] ω59 fun (ρ60 : Bool) ω61 =>
  bif !(ρ58 == ρ60) then (
  J9 std ρ1 ρ2 ρ4 ρ6 ρ8 ρ10 ρ11 ρ12 true ω61 R)
  else (
  call1 (.int .i64) PP F.impl_LongestUp #[Sl.v ρ1] ω61 fun (ρ62 : Int) ω63 =>
  call1 (.int .i64) PP F.spec_LongestUp #[Sl.v ρ1] ω63 fun (ρ64 : Int) ω65 =>
  bif ρ62 != ρ64 then (
  J9 std ρ1 ρ2 ρ4 ρ6 ρ8 ρ10 ρ11 ρ12 true ω65 R)
  else (
  call1 (.int .i64) PP F.impl_LongestDown #[Sl.v ρ1] ω65 fun (ρ66 : Int) ω67 =>
  call1 (.int .i64) PP F.spec_LongestDown #[Sl.v ρ1] ω67 fun (ρ68 : Int) ω69 =>
  J9 std ρ1 ρ2 ρ4 ρ6 ρ8 ρ10 ρ11 ρ12 (ρ66 != ρ68) ω69 R))))))) := E_eq std code_0 w R
theorem drawsOk : drawsOk PP cfg okD (codeOf Try.f4) = true := by kernel_rfl
theorem calls (code_0 : Sl) {w : World} {R : Ending → World → Prop} (h : E std code_0 w R) : Calls PP F.laws_FnGreene #[Sl.v code_0] w R :=
  calls_of noCount mixed drawOk Try.func4 rfl (c := cfg) (args := [Sl.v code_0]) rfl (Nat.le_of_ble_eq_true (by kernel_rfl)) drawsOk h
end laws_FnGreene

namespace spec_DrawUpUnion
@[reducible] def cfg : Cfg := ⟨17, [], [], [], [2, 3], [], [101, 107, 112, 15, 21, 124, 76, 137, 28, 115, 91, 81, 130], [138, 140, 82, 6, 86, 85, 132]⟩
def E (pr : Prims) (code_0 : Sl) (w : World) (R : Ending → World → Prop) : Prop :=
  wpC pr PP cfg (DD pr) (codeOf Try.f30) (retQ Try.f30.results.toList R) (argE 0 [Sl.v code_0]) w
theorem E_eq (pr : Prims) (code_0 : Sl) (w : World) (R : Ending → World → Prop) : E pr code_0 w R = (
  pr.call1 .ptr PP F.spec_l1New #[Sl.v code_0] w fun (ρ0 : (Option Addr)) ω1 =>
  pr.call1 .sl PP F.spec_l2Bent #[.pointer ρ0] ω1 fun (ρ2 : Sl) ω3 =>
  pr.call1 (.int .i64) PP F.spec_l1Below #[.pointer ρ0, vI 5] ω3 fun (ρ4 : Int) ω5 =>
  pr.call1 .bool PP F.spec_l1Once #[.pointer ρ0, vI 12] ω5 fun (ρ6 : Bool) ω7 =>
  pr.pcall1 (.int .i64) PP F.spec_l1Bit #[.bool ρ6] fun (ρ8 : Int) =>
  R (.returned (.tuple #[Sl.v ρ2, vI (w64 (ρ4 - ρ8))])) ω7) := by kernel_rfl
theorem E_s (code_0 : Sl) (w : World) (R : Ending → World → Prop) : E std code_0 w R = (
  call1 .ptr PP F.spec_l1New #[Sl.v code_0] w fun (ρ0 : (Option Addr)) ω1 =>
  call1 .sl PP F.spec_l2Bent #[.pointer ρ0] ω1 fun (ρ2 : Sl) ω3 =>
  call1 (.int .i64) PP F.spec_l1Below #[.pointer ρ0, vI 5] ω3 fun (ρ4 : Int) ω5 =>
  call1 .bool PP F.spec_l1Once #[.pointer ρ0, vI 12] ω5 fun (ρ6 : Bool) ω7 =>
  pcall1 (.int .i64) PP F.spec_l1Bit #[.bool ρ6] fun (ρ8 : Int) =>
  R (.returned (.tuple #[Sl.v ρ2, vI (w64 (ρ4 - ρ8))])) ω7) := E_eq std code_0 w R
theorem drawsOk : drawsOk PP cfg okD (codeOf Try.f30) = true := by kernel_rfl
theorem calls (code_0 : Sl) {w : World} {R : Ending → World → Prop} (h : E std code_0 w R) : Calls PP F.spec_DrawUpUnion #[Sl.v code_0] w R :=
  calls_of noCount mixed drawOk Try.func30 rfl (c := cfg) (args := [Sl.v code_0]) rfl (Nat.le_of_ble_eq_true (by kernel_rfl)) drawsOk h
end spec_DrawUpUnion

namespace spec_DrawFirstLongestUp
@[reducible] def cfg : Cfg := ⟨6, [], [], [], [2], [], [101, 107, 112, 15, 21, 124, 76, 137, 28, 115, 91, 81, 130], [138, 140, 82, 6, 86, 85, 132]⟩
def E (pr : Prims) (code_0 : Sl) (w : World) (R : Ending → World → Prop) : Prop :=
  wpC pr PP cfg (DD pr) (codeOf Try.f32) (retQ Try.f32.results.toList R) (argE 0 [Sl.v code_0]) w
theorem E_eq (pr : Prims) (code_0 : Sl) (w : World) (R : Ending → World → Prop) : E pr code_0 w R = (
  pr.call1 .ptr PP F.spec_l1New #[Sl.v code_0] w fun (ρ0 : (Option Addr)) ω1 =>
  pr.call1 .sl PP F.spec_l2Bent #[.pointer ρ0] ω1 fun (ρ2 : Sl) ω3 =>
  R (.returned (Sl.v ρ2)) ω3) := by kernel_rfl
theorem E_s (code_0 : Sl) (w : World) (R : Ending → World → Prop) : E std code_0 w R = (
  call1 .ptr PP F.spec_l1New #[Sl.v code_0] w fun (ρ0 : (Option Addr)) ω1 =>
  call1 .sl PP F.spec_l2Bent #[.pointer ρ0] ω1 fun (ρ2 : Sl) ω3 =>
  R (.returned (Sl.v ρ2)) ω3) := E_eq std code_0 w R
theorem drawsOk : drawsOk PP cfg okD (codeOf Try.f32) = true := by kernel_rfl
theorem calls (code_0 : Sl) {w : World} {R : Ending → World → Prop} (h : E std code_0 w R) : Calls PP F.spec_DrawFirstLongestUp #[Sl.v code_0] w R :=
  calls_of noCount mixed drawOk Try.func32 rfl (c := cfg) (args := [Sl.v code_0]) rfl (Nat.le_of_ble_eq_true (by kernel_rfl)) drawsOk h
end spec_DrawFirstLongestUp

namespace spec_DrawHasLongRun
@[reducible] def cfg : Cfg := ⟨18, [], [], [], [2, 3, 4], [], [101, 107, 112, 15, 21, 124, 76, 137, 28, 115, 91, 81, 130], [138, 140, 82, 6, 86, 85, 132]⟩
def E (pr : Prims) (code_0 : Sl) (w : World) (R : Ending → World → Prop) : Prop :=
  wpC pr PP cfg (DD pr) (codeOf Try.f34) (retQ Try.f34.results.toList R) (argE 0 [Sl.v code_0]) w
theorem E_eq (pr : Prims) (code_0 : Sl) (w : World) (R : Ending → World → Prop) : E pr code_0 w R = (
  pr.call1 .ptr PP F.spec_l1New #[Sl.v code_0] w fun (ρ0 : (Option Addr)) ω1 =>
  pr.call1 .sl PP F.spec_l2Bent #[.pointer ρ0] ω1 fun (ρ2 : Sl) ω3 =>
  pr.call1 (.int .i64) PP F.spec_l1Below #[.pointer ρ0, vI 5] ω3 fun (ρ4 : Int) ω5 =>
  pr.call1 (.int .i64) PP F.spec_l1Below #[.pointer ρ0, vI 5] ω5 fun (ρ6 : Int) ω7 =>
  R (.returned (.tuple #[Sl.v ρ2, vI (w64 (ρ4 - 1)), vI (w64 (ρ6 - 1))])) ω7) := by kernel_rfl
theorem E_s (code_0 : Sl) (w : World) (R : Ending → World → Prop) : E std code_0 w R = (
  call1 .ptr PP F.spec_l1New #[Sl.v code_0] w fun (ρ0 : (Option Addr)) ω1 =>
  call1 .sl PP F.spec_l2Bent #[.pointer ρ0] ω1 fun (ρ2 : Sl) ω3 =>
  call1 (.int .i64) PP F.spec_l1Below #[.pointer ρ0, vI 5] ω3 fun (ρ4 : Int) ω5 =>
  call1 (.int .i64) PP F.spec_l1Below #[.pointer ρ0, vI 5] ω5 fun (ρ6 : Int) ω7 =>
  R (.returned (.tuple #[Sl.v ρ2, vI (w64 (ρ4 - 1)), vI (w64 (ρ6 - 1))])) ω7) := E_eq std code_0 w R
theorem drawsOk : drawsOk PP cfg okD (codeOf Try.f34) = true := by kernel_rfl
theorem calls (code_0 : Sl) {w : World} {R : Ending → World → Prop} (h : E std code_0 w R) : Calls PP F.spec_DrawHasLongRun #[Sl.v code_0] w R :=
  calls_of noCount mixed drawOk Try.func34 rfl (c := cfg) (args := [Sl.v code_0]) rfl (Nat.le_of_ble_eq_true (by kernel_rfl)) drawsOk h
end spec_DrawHasLongRun

end Go.Proofs.Ytdchjhhpbdekeaa

/- What each function does, step by step, written by a program (Gen.lean); each equation is checked by the kernel. -/
namespace Go.Proofs.Ytdchjhhpbdekeaa
open Go
set_option linter.unusedVariables false
set_option maxRecDepth 100000
namespace laws_big
@[reducible] def cfg : Cfg := ⟨6, [], [], [], [2], [], [101, 107, 112, 15, 21, 124, 76, 137, 28, 115, 91, 81, 130], [138, 140, 82, 6, 86, 85, 132]⟩
def E (pr : Prims) (code_0 : Sl) (w : World) (R : Ending → World → Prop) : Prop :=
  wpC pr PP cfg (DD pr) (codeOf Try.f6) (retQ Try.f6.results.toList R) (argE 0 [Sl.v code_0]) w
theorem E_eq (pr : Prims) (code_0 : Sl) (w : World) (R : Ending → World → Prop) : E pr code_0 w R = (
  R (.returned (.bool (decide ((code_0.n : Int) > 1048576)))) w) := by kernel_rfl
theorem E_s (code_0 : Sl) (w : World) (R : Ending → World → Prop) : E std code_0 w R = (
  R (.returned (.bool (decide ((code_0.n : Int) > 1048576)))) w) := E_eq std code_0 w R
theorem drawsOk : drawsOk PP cfg okD (codeOf Try.f6) = true := by kernel_rfl
theorem calls (code_0 : Sl) {w : World} {R : Ending → World → Prop} (h : E std code_0 w R) : Calls PP F.laws_big #[Sl.v code_0] w R :=
  calls_of noCount mixed drawOk Try.func6 rfl (c := cfg) (args := [Sl.v code_0]) rfl (Nat.le_of_ble_eq_true (by kernel_rfl)) drawsOk h
end laws_big

namespace laws_sameInts
@[reducible] def cfg : Cfg := ⟨26, [(4, [0, 1, 5])], [(1, [0, 1, 5]), (0, [])], [], [4], [6], [101, 107, 112, 15, 21, 124, 76, 137, 28, 115, 91, 81, 130], [138, 140, 82, 6, 86, 85, 132]⟩
def q0 (pr : Prims) (R : Ending → World → Prop) : Exit → Env → World → Prop := fun ex e w => normQ ex (fun e w => contE pr cfg (sub (codeOf Try.f15) [1, 1, 1]) (fun e w => wpC pr PP cfg (DD pr) (sub (codeOf Try.f15) [1, 1, 1]) (retQ Try.f15.results.toList R) e w) e w) (retQ Try.f15.results.toList R) e w
def q1 (pr : Prims) (R : Ending → World → Prop) : Exit → Env → World → Prop := fun ex e w => blockQ ex 0 (q0 pr R) e w
def emb4 (a_0 : Sl) (b_1 : Sl) (i_5 : Int) : Env := [(0, Sl.v a_0), (1, Sl.v b_1), (5, vI i_5)]
def x0 : Env := []
def S4 (pr : Prims) (Q : Exit → Env → World → Prop) : (Env → World → Prop) → Env → World → Prop := fun k e w => wpC pr PP cfg (DD pr) (sub (codeOf Try.f15) [1, 1, 0, 1, 0, 0]) (fun ex e w => normQ ex (fun e' w' => k (Env.restr e' (lookN cfg.loops (keyOf (sub (codeOf Try.f15) [1, 1, 0, 1, 0, 0])))) w') Q e w) e w
def B4 (pr : Prims) (a_0 : Sl) (b_1 : Sl) (i_5 : Int) (w : World) (k : Env → World → Prop) (Q : Exit → Env → World → Prop) : Prop :=
  S4 pr Q k (emb4 a_0 b_1 i_5) w
def L4 (pr : Prims) (a_0 : Sl) (b_1 : Sl) (i_5 : Int) (w : World) (Q : Exit → Env → World → Prop) : Prop :=
  pr.loop (S4 pr Q) (emb4 a_0 b_1 i_5) w
def E (pr : Prims) (a_0 : Sl) (b_1 : Sl) (w : World) (R : Ending → World → Prop) : Prop :=
  wpC pr PP cfg (DD pr) (codeOf Try.f15) (retQ Try.f15.results.toList R) (argE 0 [Sl.v a_0, Sl.v b_1]) w
theorem B4_eq (pr : Prims) (a_0 : Sl) (b_1 : Sl) (i_5 : Int) (w : World) (k : Env → World → Prop) (Q : Exit → Env → World → Prop) : B4 pr a_0 b_1 i_5 w k Q = (
  bif decide (i_5 < (a_0.n : Int)) then (
  pr.idxK 1 a_0 i_5 fun (a2 : Addr) =>
  pr.load1 (.int .i64) a2 w fun (ξ3 : Int) =>
  pr.idxK 1 b_1 i_5 fun (a4 : Addr) =>
  pr.load1 (.int .i64) a4 w fun (ξ5 : Int) =>
  pr.drewAll w fun ω6 =>
  bif ξ3 != ξ5 then (
  Q .ret [(4, .bool false)] ω6)
  else (
  k (emb4 a_0 b_1 (w64 (i_5 + 1))) ω6))
  else (
  Q (.exit 0) (x0) w)) := by kernel_rfl
theorem B4_s (a_0 : Sl) (b_1 : Sl) (i_5 : Int) (w : World) (k : Env → World → Prop) (Q : Exit → Env → World → Prop) : B4 std a_0 b_1 i_5 w k Q = (
  bif decide (i_5 < (a_0.n : Int)) then (
  idxK 1 a_0 i_5 fun (a2 : Addr) =>
  load1 (.int .i64) a2 w fun (ξ3 : Int) =>
  idxK 1 b_1 i_5 fun (a4 : Addr) =>
  load1 (.int .i64) a4 w fun (ξ5 : Int) =>
  drewAll w fun ω6 =>
  bif ξ3 != ξ5 then (
  Q .ret [(4, .bool false)] ω6)
  else (
  k (emb4 a_0 b_1 (w64 (i_5 + 1))) ω6))
  else (
  Q (.exit 0) (x0) w)) := B4_eq std a_0 b_1 i_5 w k Q
theorem L4_rule (a_0 : Sl) (b_1 : Sl) (i_5 : Int) (w : World) (Q : Exit → Env → World → Prop) (I : Int → World → Prop) (μ : Int → World → Nat) (h0 : I i_5 w)
    (h : ∀ (i_5 : Int) (w' : World), I i_5 w' → B4 std a_0 b_1 i_5 w' (fun e2 w2 => ∃ i_5_n, e2 = emb4 a_0 b_1 i_5_n ∧ I i_5_n w2 ∧ μ i_5_n w2 < μ i_5 w') Q) :
    L4 std a_0 b_1 i_5 w Q := by
  unfold L4
  refine LoopE.intro (σ := Int) (step := S4 std Q) (fun s => emb4 a_0 b_1 s) (fun s w => I s w) (fun s w => μ s w) i_5 rfl h0 ?_
  intro s w' hI
  have h1 := h s w' hI
  unfold B4 at h1
  exact h1
theorem A4_0_eq (pr : Prims) (w : World) (R : Ending → World → Prop) : (q1 pr R) (.exit 0) (x0) w = (
  R (.returned (.bool true)) w) := by kernel_rfl
theorem A4_0_s (w : World) (R : Ending → World → Prop) : (q1 std R) (.exit 0) (x0) w = (
  R (.returned (.bool true)) w) := A4_0_eq std w R
theorem R4_eq (pr : Prims) (v4 : Value) (w : World) (R : Ending → World → Prop) : (q1 pr R) .ret [(4, v4)] w = (
  R (.returned (v4)) w) := by kernel_rfl
theorem R4_s (v4 : Value) (w : World) (R : Ending → World → Prop) : (q1 std R) .ret [(4, v4)] w = (
  R (.returned (v4)) w) := R4_eq std v4 w R
theorem E_eq (pr : Prims) (a_0 : Sl) (b_1 : Sl) (w : World) (R : Ending → World → Prop) : E pr a_0 b_1 w R = (
  bif (a_0.n : Int) != (b_1.n : Int) then (
  R (.returned (.bool false)) w)
  else (
  L4 pr a_0 b_1 0 w (q1 pr R))) := by kernel_rfl
theorem E_s (a_0 : Sl) (b_1 : Sl) (w : World) (R : Ending → World → Prop) : E std a_0 b_1 w R = (
  bif (a_0.n : Int) != (b_1.n : Int) then (
  R (.returned (.bool false)) w)
  else (
  L4 std a_0 b_1 0 w (q1 std R))) := E_eq std a_0 b_1 w R
theorem drawsOk : drawsOk PP cfg okD (codeOf Try.f15) = true := by kernel_rfl
theorem calls (a_0 : Sl) (b_1 : Sl) {w : World} {R : Ending → World → Prop} (h : E std a_0 b_1 w R) : Calls PP F.laws_sameInts #[Sl.v a_0, Sl.v b_1] w R :=
  calls_of noCount mixed drawOk Try.func15 rfl (c := cfg) (args := [Sl.v a_0, Sl.v b_1]) rfl (Nat.le_of_ble_eq_true (by kernel_rfl)) drawsOk h
end laws_sameInts

namespace laws_sameLists
@[reducible] def cfg : Cfg := ⟨27, [(4, [0, 1, 5])], [(1, [0, 1, 5]), (0, [])], [], [4], [6], [101, 107, 112, 15, 21, 124, 76, 137, 28, 115, 91, 81, 130], [138, 140, 82, 6, 86, 85, 132]⟩
def q0 (pr : Prims) (R : Ending → World → Prop) : Exit → Env → World → Prop := fun ex e w => normQ ex (fun e w => contE pr cfg (sub (codeOf Try.f21) [1, 1, 1]) (fun e w => wpC pr PP cfg (DD pr) (sub (codeOf Try.f21) [1, 1, 1]) (retQ Try.f21.results.toList R) e w) e w) (retQ Try.f21.results.toList R) e w
def q1 (pr : Prims) (R : Ending → World → Prop) : Exit → Env → World → Prop := fun ex e w => blockQ ex 0 (q0 pr R) e w
def emb4 (a_0 : Sl) (b_1 : Sl) (i_5 : Int) : Env := [(0, Sl.v a_0), (1, Sl.v b_1), (5, vI i_5)]
def x0 : Env := []
def S4 (pr : Prims) (Q : Exit → Env → World → Prop) : (Env → World → Prop) → Env → World → Prop := fun k e w => wpC pr PP cfg (DD pr) (sub (codeOf Try.f21) [1, 1, 0, 1, 0, 0]) (fun ex e w => normQ ex (fun e' w' => k (Env.restr e' (lookN cfg.loops (keyOf (sub (codeOf Try.f21) [1, 1, 0, 1, 0, 0])))) w') Q e w) e w
def B4 (pr : Prims) (a_0 : Sl) (b_1 : Sl) (i_5 : Int) (w : World) (k : Env → World → Prop) (Q : Exit → Env → World → Prop) : Prop :=
  S4 pr Q k (emb4 a_0 b_1 i_5) w
def L4 (pr : Prims) (a_0 : Sl) (b_1 : Sl) (i_5 : Int) (w : World) (Q : Exit → Env → World → Prop) : Prop :=
  pr.loop (S4 pr Q) (emb4 a_0 b_1 i_5) w
def E (pr : Prims) (a_0 : Sl) (b_1 : Sl) (w : World) (R : Ending → World → Prop) : Prop :=
  wpC pr PP cfg (DD pr) (codeOf Try.f21) (retQ Try.f21.results.toList R) (argE 0 [Sl.v a_0, Sl.v b_1]) w
theorem B4_eq (pr : Prims) (a_0 : Sl) (b_1 : Sl) (i_5 : Int) (w : World) (k : Env → World → Prop) (Q : Exit → Env → World → Prop) : B4 pr a_0 b_1 i_5 w k Q = (
  bif decide (i_5 < (a_0.n : Int)) then (
  pr.idxK 1 a_0 i_5 fun (a2 : Addr) =>
  pr.load1 .sl a2 w fun (ξ3 : Sl) =>
  pr.idxK 1 b_1 i_5 fun (a4 : Addr) =>
  pr.load1 .sl a4 w fun (ξ5 : Sl) =>
  pr.qcall1 .bool PP F.laws_sameInts #[Sl.v ξ3, Sl.v ξ5] w fun (ρ6 : Bool) =>
  pr.drewAll w fun ω7 =>
  bif !ρ6 then (
  Q .ret [(4, .bool false)] ω7)
  else (
  k (emb4 a_0 b_1 (w64 (i_5 + 1))) ω7))
  else (
  Q (.exit 0) (x0) w)) := by kernel_rfl
theorem B4_s (a_0 : Sl) (b_1 : Sl) (i_5 : Int) (w : World) (k : Env → World → Prop) (Q : Exit → Env → World → Prop) : B4 std a_0 b_1 i_5 w k Q = (
  bif decide (i_5 < (a_0.n : Int)) then (
  idxK 1 a_0 i_5 fun (a2 : Addr) =>
  load1 .sl a2 w fun (ξ3 : Sl) =>
  idxK 1 b_1 i_5 fun (a4 : Addr) =>
  load1 .sl a4 w fun (ξ5 : Sl) =>
  qcall1 .bool PP F.laws_sameInts #[Sl.v ξ3, Sl.v ξ5] w fun (ρ6 : Bool) =>
  drewAll w fun ω7 =>
  bif !ρ6 then (
  Q .ret [(4, .bool false)] ω7)
  else (
  k (emb4 a_0 b_1 (w64 (i_5 + 1))) ω7))
  else (
  Q (.exit 0) (x0) w)) := B4_eq std a_0 b_1 i_5 w k Q
theorem L4_rule (a_0 : Sl) (b_1 : Sl) (i_5 : Int) (w : World) (Q : Exit → Env → World → Prop) (I : Int → World → Prop) (μ : Int → World → Nat) (h0 : I i_5 w)
    (h : ∀ (i_5 : Int) (w' : World), I i_5 w' → B4 std a_0 b_1 i_5 w' (fun e2 w2 => ∃ i_5_n, e2 = emb4 a_0 b_1 i_5_n ∧ I i_5_n w2 ∧ μ i_5_n w2 < μ i_5 w') Q) :
    L4 std a_0 b_1 i_5 w Q := by
  unfold L4
  refine LoopE.intro (σ := Int) (step := S4 std Q) (fun s => emb4 a_0 b_1 s) (fun s w => I s w) (fun s w => μ s w) i_5 rfl h0 ?_
  intro s w' hI
  have h1 := h s w' hI
  unfold B4 at h1
  exact h1
theorem A4_0_eq (pr : Prims) (w : World) (R : Ending → World → Prop) : (q1 pr R) (.exit 0) (x0) w = (
  R (.returned (.bool true)) w) := by kernel_rfl
theorem A4_0_s (w : World) (R : Ending → World → Prop) : (q1 std R) (.exit 0) (x0) w = (
  R (.returned (.bool true)) w) := A4_0_eq std w R
theorem R4_eq (pr : Prims) (v4 : Value) (w : World) (R : Ending → World → Prop) : (q1 pr R) .ret [(4, v4)] w = (
  R (.returned (v4)) w) := by kernel_rfl
theorem R4_s (v4 : Value) (w : World) (R : Ending → World → Prop) : (q1 std R) .ret [(4, v4)] w = (
  R (.returned (v4)) w) := R4_eq std v4 w R
theorem E_eq (pr : Prims) (a_0 : Sl) (b_1 : Sl) (w : World) (R : Ending → World → Prop) : E pr a_0 b_1 w R = (
  bif (a_0.n : Int) != (b_1.n : Int) then (
  R (.returned (.bool false)) w)
  else (
  L4 pr a_0 b_1 0 w (q1 pr R))) := by kernel_rfl
theorem E_s (a_0 : Sl) (b_1 : Sl) (w : World) (R : Ending → World → Prop) : E std a_0 b_1 w R = (
  bif (a_0.n : Int) != (b_1.n : Int) then (
  R (.returned (.bool false)) w)
  else (
  L4 std a_0 b_1 0 w (q1 std R))) := E_eq std a_0 b_1 w R
theorem drawsOk : drawsOk PP cfg okD (codeOf Try.f21) = true := by kernel_rfl
theorem calls (a_0 : Sl) (b_1 : Sl) {w : World} {R : Ending → World → Prop} (h : E std a_0 b_1 w R) : Calls PP F.laws_sameLists #[Sl.v a_0, Sl.v b_1] w R :=
  calls_of noCount mixed drawOk Try.func21 rfl (c := cfg) (args := [Sl.v a_0, Sl.v b_1]) rfl (Nat.le_of_ble_eq_true (by kernel_rfl)) drawsOk h
end laws_sameLists

end Go.Proofs.Ytdchjhhpbdekeaa

/- The laws' own helpers: big, sameInts, sameLists. -/
namespace Go.Proofs.Ytdchjhhpbdekeaa
open Go Go.RowKit
set_option maxRecDepth 100000

theorem getD_I {L : List Int} {i : Nat} (hi : i < L.length) : L.getD i 0 = L[i] := by simp [List.getD_eq_getElem?_getD, List.getElem?_eq_getElem hi]
theorem c_big (a : Sl) : Pure F.laws_big #[a.v] (.bool (decide ((a.n : Int) > 1048576))) := by
  intro w
  refine laws_big.calls a ?_
  rw [laws_big.E_s]
  exact ⟨rfl, rfl⟩
theorem c_sameInts {w : World} {a b : Sl} {L M : List Int} (ha : RowI w a L) (hb : RowI w b M) (hL : L.length < 2^39) : Quiet F.laws_sameInts #[a.v, b.v] w (.bool (decide (L = M))) := by
  intro w1 hd
  have han : a.n = L.length := by have := ha.n; simpa using this
  have hbn : b.n = M.length := by have := hb.n; simpa using this
  refine laws_sameInts.calls a b ?_
  rw [laws_sameInts.E_s]
  refine bif_intro (fun h => ?_) (fun h => ?_)
  · have : L.length ≠ M.length := by simp at h; omega
    have : L ≠ M := fun e => this (by rw [e])
    exact ⟨by simp [this], Drew.refl _⟩
  have hlen : L.length = M.length := by simp at h; omega
  refine laws_sameInts.L4_rule _ _ _ _ _ (I := fun i w' => 0 ≤ i ∧ i ≤ L.length ∧ (∀ k, k < i.toNat → L[k]? = M[k]?) ∧ Drew w1 w') (μ := fun i _ => (L.length - i).toNat)
    ⟨by omega, by omega, fun k hk => by simp at hk, Drew.refl _⟩ ?_
  rintro i w' ⟨h0, hi, hall, hd2⟩
  have hh : w'.heap = w.heap := (hd.trans hd2).heap'
  rw [laws_sameInts.B4_s]
  refine bif_dec (fun h3 => ?_) (fun h3 => ?_)
  · have hlt : i.toNat < L.length := by omega
    have hlt2 : i.toNat < M.length := by omega
    refine RowI.get (ha.heap hh) h0 (by omega) ?_
    refine RowI.get (hb.heap hh) h0 (by omega) ?_
    refine drew_intro fun w3 hd3 => ?_
    rw [getD_I hlt, getD_I hlt2]
    refine bif_intro (fun h4 => ?_) (fun h4 => ?_)
    · have : L ≠ M := fun e => by subst e; simp at h4
      rw [laws_sameInts.R4_s]
      exact ⟨by simp [this], hd2.trans hd3⟩
    · have h4 : L[i.toNat] = M[i.toNat] := by simpa using h4
      refine ⟨i + 1, by rw [w64_succ h0 (by omega)], ⟨by omega, by omega, fun k hk => ?_, hd2.trans hd3⟩, by omega⟩
      by_cases hk2 : k < i.toNat
      · exact hall k hk2
      · have : k = i.toNat := by omega
        subst this
        rw [List.getElem?_eq_getElem hlt, List.getElem?_eq_getElem hlt2, h4]
  · rw [laws_sameInts.A4_0_s]
    have : L = M := by
      apply List.ext_getElem?
      intro k
      by_cases hk : k < L.length
      · exact hall k (by omega)
      · rw [List.getElem?_eq_none (by omega), List.getElem?_eq_none (by omega)]
    exact ⟨by simp [this], hd2⟩
theorem c_sameLists {w : World} {a b : Sl} {LL MM : List (List Int)} (ha : RowSS w a LL) (hb : RowSS w b MM) (hL : LL.length < 2^39) (hr : tot LL < 2^39) : Quiet F.laws_sameLists #[a.v, b.v] w (.bool (decide (LL = MM))) := by
  intro w1 hd
  have han := ha.n
  have hbn := hb.n
  refine laws_sameLists.calls a b ?_
  rw [laws_sameLists.E_s]
  refine bif_intro (fun h => ?_) (fun h => ?_)
  · have : LL.length ≠ MM.length := by simp at h; omega
    have : LL ≠ MM := fun e => this (by rw [e])
    exact ⟨by simp [this], Drew.refl _⟩
  have hlen : LL.length = MM.length := by simp at h; omega
  refine laws_sameLists.L4_rule _ _ _ _ _ (I := fun i w' => 0 ≤ i ∧ i ≤ LL.length ∧ (∀ k, k < i.toNat → LL[k]? = MM[k]?) ∧ Drew w1 w') (μ := fun i _ => (LL.length - i).toNat)
    ⟨by omega, by omega, fun k hk => by simp at hk, Drew.refl _⟩ ?_
  rintro i w' ⟨h0, hi, hall, hd2⟩
  have hh : w'.heap = w.heap := (hd.trans hd2).heap'
  rw [laws_sameLists.B4_s]
  refine bif_dec (fun h3 => ?_) (fun h3 => ?_)
  · have hlt : i.toNat < LL.length := by omega
    have hlt2 : i.toNat < MM.length := by omega
    refine RowSS.get (ha.heap hh) h0 (by omega) fun r hr1 => ?_
    refine RowSS.get (hb.heap hh) h0 (by omega) fun t ht1 => ?_
    rw [getD_SS hlt] at hr1
    rw [getD_SS hlt2] at ht1
    have h40 := len_le_tot (List.getElem_mem hlt)
    refine Quiet.qcall1 (s := .bool) (c_sameInts hr1 ht1 (by omega)) ?_
    refine drew_intro fun w3 hd3 => ?_
    refine bif_intro (fun h4 => ?_) (fun h4 => ?_)
    · have : LL ≠ MM := fun e => by subst e; simp at h4
      rw [laws_sameLists.R4_s]
      exact ⟨by simp [this], hd2.trans hd3⟩
    · have h4 : LL[i.toNat] = MM[i.toNat] := by simpa using h4
      refine ⟨i + 1, by rw [w64_succ h0 (by omega)], ⟨by omega, by omega, fun k hk => ?_, hd2.trans hd3⟩, by omega⟩
      by_cases hk2 : k < i.toNat
      · exact hall k hk2
      · have : k = i.toNat := by omega
        subst this
        rw [List.getElem?_eq_getElem hlt, List.getElem?_eq_getElem hlt2, h4]
  · rw [laws_sameLists.A4_0_s]
    have : LL = MM := by
      apply List.ext_getElem?
      intro k
      by_cases hk : k < LL.length
      · exact hall k (by omega)
      · rw [List.getElem?_eq_none (by omega), List.getElem?_eq_none (by omega)]
    exact ⟨by simp [this], hd2⟩

end Go.Proofs.Ytdchjhhpbdekeaa

/- What each function does, step by step, written by a program (Gen.lean); each equation is checked by the kernel. -/
namespace Go.Proofs.Ytdchjhhpbdekeaa
open Go
set_option linter.unusedVariables false
set_option maxRecDepth 100000
namespace spec_l1In
@[reducible] def cfg : Cfg := ⟨15, [], [], [], [6], [], [101, 107, 112, 15, 21, 124, 76, 137, 28, 115, 91, 81, 130], [138, 140, 82, 6, 86, 85, 132]⟩
def E (pr : Prims) (x_0 : Int) (lo_1 : Int) (hi_2 : Int) (w : World) (R : Ending → World → Prop) : Prop :=
  wpC pr PP cfg (DD pr) (codeOf Try.f85) (retQ Try.f85.results.toList R) (argE 0 [vI x_0, vI lo_1, vI hi_2]) w
theorem E_eq (pr : Prims) (x_0 : Int) (lo_1 : Int) (hi_2 : Int) (w : World) (R : Ending → World → Prop) : E pr x_0 lo_1 hi_2 w R = (
  bif decide (x_0 ≥ lo_1) then (
  R (.returned (.bool (decide (x_0 ≤ hi_2)))) w)
  else (
  R (.returned (.bool false)) w)) := by kernel_rfl
theorem E_s (x_0 : Int) (lo_1 : Int) (hi_2 : Int) (w : World) (R : Ending → World → Prop) : E std x_0 lo_1 hi_2 w R = (
  bif decide (x_0 ≥ lo_1) then (
  R (.returned (.bool (decide (x_0 ≤ hi_2)))) w)
  else (
  R (.returned (.bool false)) w)) := E_eq std x_0 lo_1 hi_2 w R
theorem drawsOk : drawsOk PP cfg okD (codeOf Try.f85) = true := by kernel_rfl
theorem calls (x_0 : Int) (lo_1 : Int) (hi_2 : Int) {w : World} {R : Ending → World → Prop} (h : E std x_0 lo_1 hi_2 w R) : Calls PP F.spec_l1In #[vI x_0, vI lo_1, vI hi_2] w R :=
  calls_of noCount mixed drawOk Try.func85 rfl (c := cfg) (args := [vI x_0, vI lo_1, vI hi_2]) rfl (Nat.le_of_ble_eq_true (by kernel_rfl)) drawsOk h
end spec_l1In

namespace spec_l1Bit
@[reducible] def cfg : Cfg := ⟨4, [], [], [], [2], [], [101, 107, 112, 15, 21, 124, 76, 137, 28, 115, 91, 81, 130], [138, 140, 82, 6, 86, 85, 132]⟩
def E (pr : Prims) (on_0 : Bool) (w : World) (R : Ending → World → Prop) : Prop :=
  wpC pr PP cfg (DD pr) (codeOf Try.f86) (retQ Try.f86.results.toList R) (argE 0 [.bool on_0]) w
theorem E_eq (pr : Prims) (on_0 : Bool) (w : World) (R : Ending → World → Prop) : E pr on_0 w R = (
  bif on_0 then (
  R (.returned (vI 1)) w)
  else (
  R (.returned (vI 0)) w)) := by kernel_rfl
theorem E_s (on_0 : Bool) (w : World) (R : Ending → World → Prop) : E std on_0 w R = (
  bif on_0 then (
  R (.returned (vI 1)) w)
  else (
  R (.returned (vI 0)) w)) := E_eq std on_0 w R
theorem drawsOk : drawsOk PP cfg okD (codeOf Try.f86) = true := by kernel_rfl
theorem calls (on_0 : Bool) {w : World} {R : Ending → World → Prop} (h : E std on_0 w R) : Calls PP F.spec_l1Bit #[.bool on_0] w R :=
  calls_of noCount mixed drawOk Try.func86 rfl (c := cfg) (args := [.bool on_0]) rfl (Nat.le_of_ble_eq_true (by kernel_rfl)) drawsOk h
end spec_l1Bit

namespace impl_isPerm
@[reducible] def cfg : Cfg := ⟨34, [(3, [0, 3, 10, 11, 12])], [(1, [0, 3, 10, 11, 12]), (0, [])], [], [2], [], [101, 107, 112, 15, 21, 124, 76, 137, 28, 115, 91, 81, 130], [138, 140, 82, 6, 86, 85, 132]⟩
def q2 (pr : Prims) (R : Ending → World → Prop) : Exit → Env → World → Prop := fun ex e w => normQ ex (fun e w => contE pr cfg (sub (codeOf Try.f117) [1, 1, 1]) (fun e w => wpC pr PP cfg (DD pr) (sub (codeOf Try.f117) [1, 1, 1]) (retQ Try.f117.results.toList R) e w) e w) (retQ Try.f117.results.toList R) e w
def q3 (pr : Prims) (R : Ending → World → Prop) : Exit → Env → World → Prop := fun ex e w => blockQ ex 0 (q2 pr R) e w
def emb3 (p_0 : Sl) (seen_3 : Sl) (t10 : Sl) (t11 : Int) (t12 : Int) : Env := [(0, Sl.v p_0), (3, Sl.v seen_3), (10, Sl.v t10), (11, vI t11), (12, vI t12)]
def x0 : Env := []
def S3 (pr : Prims) (Q : Exit → Env → World → Prop) : (Env → World → Prop) → Env → World → Prop := fun k e w => wpC pr PP cfg (DD pr) (sub (codeOf Try.f117) [1, 1, 0, 1, 0, 0]) (fun ex e w => normQ ex (fun e' w' => k (Env.restr e' (lookN cfg.loops (keyOf (sub (codeOf Try.f117) [1, 1, 0, 1, 0, 0])))) w') Q e w) e w
def B3 (pr : Prims) (p_0 : Sl) (seen_3 : Sl) (t10 : Sl) (t11 : Int) (t12 : Int) (w : World) (k : Env → World → Prop) (Q : Exit → Env → World → Prop) : Prop :=
  S3 pr Q k (emb3 p_0 seen_3 t10 t11 t12) w
def L3 (pr : Prims) (p_0 : Sl) (seen_3 : Sl) (t10 : Sl) (t11 : Int) (t12 : Int) (w : World) (Q : Exit → Env → World → Prop) : Prop :=
  pr.loop (S3 pr Q) (emb3 p_0 seen_3 t10 t11 t12) w
def E (pr : Prims) (p_0 : Sl) (w : World) (R : Ending → World → Prop) : Prop :=
  wpC pr PP cfg (DD pr) (codeOf Try.f117) (retQ Try.f117.results.toList R) (argE 0 [Sl.v p_0]) w
theorem B3_eq (pr : Prims) (p_0 : Sl) (seen_3 : Sl) (t10 : Sl) (t11 : Int) (t12 : Int) (w : World) (k : Env → World → Prop) (Q : Exit → Env → World → Prop) : B3 pr p_0 seen_3 t10 t11 t12 w k Q = (
  bif decide (t12 < t11) then (
  pr.idxK 1 t10 t12 fun (a4 : Addr) =>
  pr.load1 (.int .i64) a4 w fun (ξ5 : Int) =>
  bif decide (ξ5 < 1) then (
  Q .ret [(2, .bool false)] w)
  else (
  bif decide (ξ5 > (p_0.n : Int)) then (
  Q .ret [(2, .bool false)] w)
  else (
  pr.idxK 1 seen_3 ξ5 fun (a6 : Addr) =>
  pr.load1 .bool a6 w fun (ξ7 : Bool) =>
  bif ξ7 then (
  Q .ret [(2, .bool false)] w)
  else (
  pr.idxK 1 seen_3 ξ5 fun (a8 : Addr) =>
  pr.storeC a8 (.bool true) w fun ω9 =>
  k (emb3 p_0 seen_3 t10 t11 (w64 (t12 + 1))) ω9))))
  else (
  Q (.exit 0) (x0) w)) := by kernel_rfl
theorem B3_s (p_0 : Sl) (seen_3 : Sl) (t10 : Sl) (t11 : Int) (t12 : Int) (w : World) (k : Env → World → Prop) (Q : Exit → Env → World → Prop) : B3 std p_0 seen_3 t10 t11 t12 w k Q = (
  bif decide (t12 < t11) then (
  idxK 1 t10 t12 fun (a4 : Addr) =>
  load1 (.int .i64) a4 w fun (ξ5 : Int) =>
  bif decide (ξ5 < 1) then (
  Q .ret [(2, .bool false)] w)
  else (
  bif decide (ξ5 > (p_0.n : Int)) then (
  Q .ret [(2, .bool false)] w)
  else (
  idxK 1 seen_3 ξ5 fun (a6 : Addr) =>
  load1 .bool a6 w fun (ξ7 : Bool) =>
  bif ξ7 then (
  Q .ret [(2, .bool false)] w)
  else (
  idxK 1 seen_3 ξ5 fun (a8 : Addr) =>
  storeC a8 (.bool true) w fun ω9 =>
  k (emb3 p_0 seen_3 t10 t11 (w64 (t12 + 1))) ω9))))
  else (
  Q (.exit 0) (x0) w)) := B3_eq std p_0 seen_3 t10 t11 t12 w k Q
theorem L3_rule (p_0 : Sl) (seen_3 : Sl) (t10 : Sl) (t11 : Int) (t12 : Int) (w : World) (Q : Exit → Env → World → Prop) (I : Int → World → Prop) (μ : Int → World → Nat) (h0 : I t12 w)
    (h : ∀ (t12 : Int) (w' : World), I t12 w' → B3 std p_0 seen_3 t10 t11 t12 w' (fun e2 w2 => ∃ t12_n, e2 = emb3 p_0 seen_3 t10 t11 t12_n ∧ I t12_n w2 ∧ μ t12_n w2 < μ t12 w') Q) :
    L3 std p_0 seen_3 t10 t11 t12 w Q := by
  unfold L3
  refine LoopE.intro (σ := Int) (step := S3 std Q) (fun s => emb3 p_0 seen_3 t10 t11 s) (fun s w => I s w) (fun s w => μ s w) t12 rfl h0 ?_
  intro s w' hI
  have h1 := h s w' hI
  unfold B3 at h1
  exact h1
theorem A3_0_eq (pr : Prims) (w : World) (R : Ending → World → Prop) : (q3 pr R) (.exit 0) (x0) w = (
  R (.returned (.bool true)) w) := by kernel_rfl
theorem A3_0_s (w : World) (R : Ending → World → Prop) : (q3 std R) (.exit 0) (x0) w = (
  R (.returned (.bool true)) w) := A3_0_eq std w R
theorem R3_eq (pr : Prims) (v2 : Value) (w : World) (R : Ending → World → Prop) : (q3 pr R) .ret [(2, v2)] w = (
  R (.returned (v2)) w) := by kernel_rfl
theorem R3_s (v2 : Value) (w : World) (R : Ending → World → Prop) : (q3 std R) .ret [(2, v2)] w = (
  R (.returned (v2)) w) := R3_eq std v2 w R
theorem E_eq (pr : Prims) (p_0 : Sl) (w : World) (R : Ending → World → Prop) : E pr p_0 w R = (
  pr.sem1 .sl PP (Instr.makeSlice T_Sbool (vI (w64 ((p_0.n : Int) + 1))) (vI (w64 ((p_0.n : Int) + 1)))) w fun (ρ0 : Sl) ω1 =>
  L3 pr p_0 ρ0 p_0 (p_0.n : Int) 0 ω1 (q3 pr R)) := by kernel_rfl
theorem E_s (p_0 : Sl) (w : World) (R : Ending → World → Prop) : E std p_0 w R = (
  sem1 .sl PP (Instr.makeSlice T_Sbool (vI (w64 ((p_0.n : Int) + 1))) (vI (w64 ((p_0.n : Int) + 1)))) w fun (ρ0 : Sl) ω1 =>
  L3 std p_0 ρ0 p_0 (p_0.n : Int) 0 ω1 (q3 std R)) := E_eq std p_0 w R
theorem drawsOk : drawsOk PP cfg okD (codeOf Try.f117) = true := by kernel_rfl
theorem calls (p_0 : Sl) {w : World} {R : Ending → World → Prop} (h : E std p_0 w R) : Calls PP F.impl_isPerm #[Sl.v p_0] w R :=
  calls_of noCount mixed drawOk Try.func117 rfl (c := cfg) (args := [Sl.v p_0]) rfl (Nat.le_of_ble_eq_true (by kernel_rfl)) drawsOk h
end impl_isPerm

namespace impl_IsPerm
@[reducible] def cfg : Cfg := ⟨10, [], [], [], [2], [], [101, 107, 112, 15, 21, 124, 76, 137, 28, 115, 91, 81, 130], [138, 140, 82, 6, 86, 85, 132]⟩
def E (pr : Prims) (p_0 : Sl) (w : World) (R : Ending → World → Prop) : Prop :=
  wpC pr PP cfg (DD pr) (codeOf Try.f67) (retQ Try.f67.results.toList R) (argE 0 [Sl.v p_0]) w
theorem E_eq (pr : Prims) (p_0 : Sl) (w : World) (R : Ending → World → Prop) : E pr p_0 w R = (
  bif decide ((p_0.n : Int) ≤ 8) then (
  pr.call1 .bool PP F.impl_isPerm #[Sl.v p_0] w fun (ρ0 : Bool) ω1 =>
  R (.returned (.bool ρ0)) ω1)
  else (
  R (.returned (.bool false)) w)) := by kernel_rfl
theorem E_s (p_0 : Sl) (w : World) (R : Ending → World → Prop) : E std p_0 w R = (
  bif decide ((p_0.n : Int) ≤ 8) then (
  call1 .bool PP F.impl_isPerm #[Sl.v p_0] w fun (ρ0 : Bool) ω1 =>
  R (.returned (.bool ρ0)) ω1)
  else (
  R (.returned (.bool false)) w)) := E_eq std p_0 w R
theorem drawsOk : drawsOk PP cfg okD (codeOf Try.f67) = true := by kernel_rfl
theorem calls (p_0 : Sl) {w : World} {R : Ending → World → Prop} (h : E std p_0 w R) : Calls PP F.impl_IsPerm #[Sl.v p_0] w R :=
  calls_of noCount mixed drawOk Try.func67 rfl (c := cfg) (args := [Sl.v p_0]) rfl (Nat.le_of_ble_eq_true (by kernel_rfl)) drawsOk h
end impl_IsPerm

namespace spec_IsPerm
@[reducible] def cfg : Cfg := ⟨36, [(2, [0, 3])], [(1, [0, 3]), (0, [0])], [], [2], [4], [101, 107, 112, 15, 21, 124, 76, 137, 28, 115, 91, 81, 130], [138, 140, 82, 6, 86, 85, 132]⟩
def q0 (pr : Prims) (R : Ending → World → Prop) : Exit → Env → World → Prop := fun ex e w => normQ ex (fun e w => contE pr cfg (sub (codeOf Try.f28) [1, 1]) (fun e w => wpC pr PP cfg (DD pr) (sub (codeOf Try.f28) [1, 1]) (retQ Try.f28.results.toList R) e w) e w) (retQ Try.f28.results.toList R) e w
def q1 (pr : Prims) (R : Ending → World → Prop) : Exit → Env → World → Prop := fun ex e w => blockQ ex 0 (q0 pr R) e w
def emb2 (p_0 : Sl) (k_3 : Int) : Env := [(0, Sl.v p_0), (3, vI k_3)]
def x0 (p_0 : Sl) : Env := [(0, Sl.v p_0)]
def S2 (pr : Prims) (Q : Exit → Env → World → Prop) : (Env → World → Prop) → Env → World → Prop := fun k e w => wpC pr PP cfg (DD pr) (sub (codeOf Try.f28) [1, 0, 1, 0, 0]) (fun ex e w => normQ ex (fun e' w' => k (Env.restr e' (lookN cfg.loops (keyOf (sub (codeOf Try.f28) [1, 0, 1, 0, 0])))) w') Q e w) e w
def B2 (pr : Prims) (p_0 : Sl) (k_3 : Int) (w : World) (k : Env → World → Prop) (Q : Exit → Env → World → Prop) : Prop :=
  S2 pr Q k (emb2 p_0 k_3) w
def L2 (pr : Prims) (p_0 : Sl) (k_3 : Int) (w : World) (Q : Exit → Env → World → Prop) : Prop :=
  pr.loop (S2 pr Q) (emb2 p_0 k_3) w
def E (pr : Prims) (p_0 : Sl) (w : World) (R : Ending → World → Prop) : Prop :=
  wpC pr PP cfg (DD pr) (codeOf Try.f28) (retQ Try.f28.results.toList R) (argE 0 [Sl.v p_0]) w
theorem B2_eq (pr : Prims) (p_0 : Sl) (k_3 : Int) (w : World) (k : Env → World → Prop) (Q : Exit → Env → World → Prop) : B2 pr p_0 k_3 w k Q = (
  bif decide (k_3 < (p_0.n : Int)) then (
  bif decide ((p_0.n : Int) ≤ 8) then (
  pr.idxK 1 p_0 k_3 fun (a2 : Addr) =>
  pr.load1 (.int .i64) a2 w fun (ξ3 : Int) =>
  pr.pcall1 .bool PP F.spec_l1In #[vI ξ3, vI 1, vI (p_0.n : Int)] fun (ρ4 : Bool) =>
  bif !ρ4 then (
  pr.drewAll w fun ω5 =>
  Q .ret [(2, .bool false)] ω5)
  else (
  pr.cutK 1 p_0 none (some k_3) fun (s6 : Sl) =>
  pr.idxK 1 p_0 k_3 fun (a7 : Addr) =>
  pr.load1 (.int .i64) a7 w fun (ξ8 : Int) =>
  pr.qcall1 .bool PP F.spec_l2Has #[Sl.v s6, vI ξ8] w fun (ρ9 : Bool) =>
  pr.drewAll w fun ω10 =>
  bif ρ9 then (
  Q .ret [(2, .bool false)] ω10)
  else (
  k (emb2 p_0 (w64 (k_3 + 1))) ω10)))
  else (
  Q (.exit 0) (x0 p_0) w))
  else (
  Q (.exit 0) (x0 p_0) w)) := by kernel_rfl
theorem B2_s (p_0 : Sl) (k_3 : Int) (w : World) (k : Env → World → Prop) (Q : Exit → Env → World → Prop) : B2 std p_0 k_3 w k Q = (
  bif decide (k_3 < (p_0.n : Int)) then (
  bif decide ((p_0.n : Int) ≤ 8) then (
  idxK 1 p_0 k_3 fun (a2 : Addr) =>
  load1 (.int .i64) a2 w fun (ξ3 : Int) =>
  pcall1 .bool PP F.spec_l1In #[vI ξ3, vI 1, vI (p_0.n : Int)] fun (ρ4 : Bool) =>
  bif !ρ4 then (
  drewAll w fun ω5 =>
  Q .ret [(2, .bool false)] ω5)
  else (
  cutK 1 p_0 none (some k_3) fun (s6 : Sl) =>
  idxK 1 p_0 k_3 fun (a7 : Addr) =>
  load1 (.int .i64) a7 w fun (ξ8 : Int) =>
  qcall1 .bool PP F.spec_l2Has #[Sl.v s6, vI ξ8] w fun (ρ9 : Bool) =>
  drewAll w fun ω10 =>
  bif ρ9 then (
  Q .ret [(2, .bool false)] ω10)
  else (
  k (emb2 p_0 (w64 (k_3 + 1))) ω10)))
  else (
  Q (.exit 0) (x0 p_0) w))
  else (
  Q (.exit 0) (x0 p_0) w)) := B2_eq std p_0 k_3 w k Q
theorem L2_rule (p_0 : Sl) (k_3 : Int) (w : World) (Q : Exit → Env → World → Prop) (I : Int → World → Prop) (μ : Int → World → Nat) (h0 : I k_3 w)
    (h : ∀ (k_3 : Int) (w' : World), I k_3 w' → B2 std p_0 k_3 w' (fun e2 w2 => ∃ k_3_n, e2 = emb2 p_0 k_3_n ∧ I k_3_n w2 ∧ μ k_3_n w2 < μ k_3 w') Q) :
    L2 std p_0 k_3 w Q := by
  unfold L2
  refine LoopE.intro (σ := Int) (step := S2 std Q) (fun s => emb2 p_0 s) (fun s w => I s w) (fun s w => μ s w) k_3 rfl h0 ?_
  intro s w' hI
  have h1 := h s w' hI
  unfold B2 at h1
  exact h1
theorem A2_0_eq (pr : Prims) (p_0 : Sl) (w : World) (R : Ending → World → Prop) : (q1 pr R) (.exit 0) (x0 p_0) w = (
  R (.returned (.bool (decide ((p_0.n : Int) ≤ 8)))) w) := by kernel_rfl
theorem A2_0_s (p_0 : Sl) (w : World) (R : Ending → World → Prop) : (q1 std R) (.exit 0) (x0 p_0) w = (
  R (.returned (.bool (decide ((p_0.n : Int) ≤ 8)))) w) := A2_0_eq std p_0 w R
theorem R2_eq (pr : Prims) (v2 : Value) (w : World) (R : Ending → World → Prop) : (q1 pr R) .ret [(2, v2)] w = (
  R (.returned (v2)) w) := by kernel_rfl
theorem R2_s (v2 : Value) (w : World) (R : Ending → World → Prop) : (q1 std R) .ret [(2, v2)] w = (
  R (.returned (v2)) w) := R2_eq std v2 w R
theorem E_eq (pr : Prims) (p_0 : Sl) (w : World) (R : Ending → World → Prop) : E pr p_0 w R = (
  L2 pr p_0 0 w (q1 pr R)) := by kernel_rfl
theorem E_s (p_0 : Sl) (w : World) (R : Ending → World → Prop) : E std p_0 w R = (
  L2 std p_0 0 w (q1 std R)) := E_eq std p_0 w R
theorem drawsOk : drawsOk PP cfg okD (codeOf Try.f28) = true := by kernel_rfl
theorem calls (p_0 : Sl) {w : World} {R : Ending → World → Prop} (h : E std p_0 w R) : Calls PP F.spec_IsPerm #[Sl.v p_0] w R :=
  calls_of noCount mixed drawOk Try.func28 rfl (c := cfg) (args := [Sl.v p_0]) rfl (Nat.le_of_ble_eq_true (by kernel_rfl)) drawsOk h
end spec_IsPerm

namespace spec_l2Has
@[reducible] def cfg : Cfg := ⟨18, [(2, [0, 1, 5])], [(1, [0, 1, 5]), (0, [])], [], [4], [], [101, 107, 112, 15, 21, 124, 76, 137, 28, 115, 91, 81, 130], [138, 140, 82, 6, 86, 85, 132]⟩
def q0 (pr : Prims) (R : Ending → World → Prop) : Exit → Env → World → Prop := fun ex e w => normQ ex (fun e w => contE pr cfg (sub (codeOf Try.f91) [1, 1]) (fun e w => wpC pr PP cfg (DD pr) (sub (codeOf Try.f91) [1, 1]) (retQ Try.f91.results.toList R) e w) e w) (retQ Try.f91.results.toList R) e w
def q1 (pr : Prims) (R : Ending → World → Prop) : Exit → Env → World → Prop := fun ex e w => blockQ ex 0 (q0 pr R) e w
def emb2 (list_0 : Sl) (n_1 : Int) (k_5 : Int) : Env := [(0, Sl.v list_0), (1, vI n_1), (5, vI k_5)]
def x0 : Env := []
def S2 (pr : Prims) (Q : Exit → Env → World → Prop) : (Env → World → Prop) → Env → World → Prop := fun k e w => wpC pr PP cfg (DD pr) (sub (codeOf Try.f91) [1, 0, 1, 0, 0]) (fun ex e w => normQ ex (fun e' w' => k (Env.restr e' (lookN cfg.loops (keyOf (sub (codeOf Try.f91) [1, 0, 1, 0, 0])))) w') Q e w) e w
def B2 (pr : Prims) (list_0 : Sl) (n_1 : Int) (k_5 : Int) (w : World) (k : Env → World → Prop) (Q : Exit → Env → World → Prop) : Prop :=
  S2 pr Q k (emb2 list_0 n_1 k_5) w
def L2 (pr : Prims) (list_0 : Sl) (n_1 : Int) (k_5 : Int) (w : World) (Q : Exit → Env → World → Prop) : Prop :=
  pr.loop (S2 pr Q) (emb2 list_0 n_1 k_5) w
def E (pr : Prims) (list_0 : Sl) (n_1 : Int) (w : World) (R : Ending → World → Prop) : Prop :=
  wpC pr PP cfg (DD pr) (codeOf Try.f91) (retQ Try.f91.results.toList R) (argE 0 [Sl.v list_0, vI n_1]) w
theorem B2_eq (pr : Prims) (list_0 : Sl) (n_1 : Int) (k_5 : Int) (w : World) (k : Env → World → Prop) (Q : Exit → Env → World → Prop) : B2 pr list_0 n_1 k_5 w k Q = (
  bif decide (k_5 < (list_0.n : Int)) then (
  pr.idxK 1 list_0 k_5 fun (a2 : Addr) =>
  pr.load1 (.int .i64) a2 w fun (ξ3 : Int) =>
  bif ξ3 == n_1 then (
  Q .ret [(4, .bool true)] w)
  else (
  k (emb2 list_0 n_1 (w64 (k_5 + 1))) w))
  else (
  Q (.exit 0) (x0) w)) := by kernel_rfl
theorem B2_s (list_0 : Sl) (n_1 : Int) (k_5 : Int) (w : World) (k : Env → World → Prop) (Q : Exit → Env → World → Prop) : B2 std list_0 n_1 k_5 w k Q = (
  bif decide (k_5 < (list_0.n : Int)) then (
  idxK 1 list_0 k_5 fun (a2 : Addr) =>
  load1 (.int .i64) a2 w fun (ξ3 : Int) =>
  bif ξ3 == n_1 then (
  Q .ret [(4, .bool true)] w)
  else (
  k (emb2 list_0 n_1 (w64 (k_5 + 1))) w))
  else (
  Q (.exit 0) (x0) w)) := B2_eq std list_0 n_1 k_5 w k Q
theorem L2_rule (list_0 : Sl) (n_1 : Int) (k_5 : Int) (w : World) (Q : Exit → Env → World → Prop) (I : Int → World → Prop) (μ : Int → World → Nat) (h0 : I k_5 w)
    (h : ∀ (k_5 : Int) (w' : World), I k_5 w' → B2 std list_0 n_1 k_5 w' (fun e2 w2 => ∃ k_5_n, e2 = emb2 list_0 n_1 k_5_n ∧ I k_5_n w2 ∧ μ k_5_n w2 < μ k_5 w') Q) :
    L2 std list_0 n_1 k_5 w Q := by
  unfold L2
  refine LoopE.intro (σ := Int) (step := S2 std Q) (fun s => emb2 list_0 n_1 s) (fun s w => I s w) (fun s w => μ s w) k_5 rfl h0 ?_
  intro s w' hI
  have h1 := h s w' hI
  unfold B2 at h1
  exact h1
theorem A2_0_eq (pr : Prims) (w : World) (R : Ending → World → Prop) : (q1 pr R) (.exit 0) (x0) w = (
  R (.returned (.bool false)) w) := by kernel_rfl
theorem A2_0_s (w : World) (R : Ending → World → Prop) : (q1 std R) (.exit 0) (x0) w = (
  R (.returned (.bool false)) w) := A2_0_eq std w R
theorem R2_eq (pr : Prims) (v4 : Value) (w : World) (R : Ending → World → Prop) : (q1 pr R) .ret [(4, v4)] w = (
  R (.returned (v4)) w) := by kernel_rfl
theorem R2_s (v4 : Value) (w : World) (R : Ending → World → Prop) : (q1 std R) .ret [(4, v4)] w = (
  R (.returned (v4)) w) := R2_eq std v4 w R
theorem E_eq (pr : Prims) (list_0 : Sl) (n_1 : Int) (w : World) (R : Ending → World → Prop) : E pr list_0 n_1 w R = (
  L2 pr list_0 n_1 0 w (q1 pr R)) := by kernel_rfl
theorem E_s (list_0 : Sl) (n_1 : Int) (w : World) (R : Ending → World → Prop) : E std list_0 n_1 w R = (
  L2 std list_0 n_1 0 w (q1 std R)) := E_eq std list_0 n_1 w R
theorem drawsOk : drawsOk PP cfg okD (codeOf Try.f91) = true := by kernel_rfl
theorem calls (list_0 : Sl) (n_1 : Int) {w : World} {R : Ending → World → Prop} (h : E std list_0 n_1 w R) : Calls PP F.spec_l2Has #[Sl.v list_0, vI n_1] w R :=
  calls_of noCount mixed drawOk Try.func91 rfl (c := cfg) (args := [Sl.v list_0, vI n_1]) rfl (Nat.le_of_ble_eq_true (by kernel_rfl)) drawsOk h
end spec_l2Has

namespace impl_lengths
@[reducible] def cfg : Cfg := ⟨95, [(7, [0, 4, 5, 6, 7]), (3, [0, 4, 5, 6])], [(4, [0, 4, 5, 6, 7]), (3, [0, 4, 5, 6, 7]), (2, [0, 4, 5, 6]), (1, [0, 4, 5, 6]), (0, [4, 5])], [(2, [0, 4, 5])], [2, 3], [10, 11], [101, 107, 112, 15, 21, 124, 76, 137, 28, 115, 91, 81, 130], [138, 140, 82, 6, 86, 85, 132]⟩
def q0 (pr : Prims) (R : Ending → World → Prop) : Exit → Env → World → Prop := fun ex e w => normQ ex (fun e w => contE pr cfg (sub (codeOf Try.f93) [1, 1]) (fun e w => wpC pr PP cfg (DD pr) (sub (codeOf Try.f93) [1, 1]) (retQ Try.f93.results.toList R) e w) e w) (retQ Try.f93.results.toList R) e w
def q6 (pr : Prims) (R : Ending → World → Prop) : Exit → Env → World → Prop := fun ex e w => normQ ex (fun e w => contE pr cfg (sub (codeOf Try.f93) [1, 1, 1]) (fun e w => wpC pr PP cfg (DD pr) (sub (codeOf Try.f93) [1, 1, 1]) (retQ Try.f93.results.toList R) e w) e w) (retQ Try.f93.results.toList R) e w
def q7 (pr : Prims) (R : Ending → World → Prop) : Exit → Env → World → Prop := fun ex e w => blockQ ex 0 (q6 pr R) e w
def q8 (pr : Prims) (k : Env → World → Prop) (Q : Exit → Env → World → Prop) : Exit → Env → World → Prop := fun ex e w => normQ ex (fun e w => contE pr cfg (sub (codeOf Try.f93) [1, 1, 0, 1, 0, 0, 1, 1]) (fun e w => wpC pr PP cfg (DD pr) (sub (codeOf Try.f93) [1, 1, 0, 1, 0, 0, 1, 1]) (fun ex e w => normQ ex (fun e' w' => k (Env.restr e' (lookN cfg.loops (keyOf (sub (codeOf Try.f93) [1, 1, 0, 1, 0, 0])))) w') Q e w) e w) e w) (fun ex e w => normQ ex (fun e' w' => k (Env.restr e' (lookN cfg.loops (keyOf (sub (codeOf Try.f93) [1, 1, 0, 1, 0, 0])))) w') Q e w) e w
def q9 (pr : Prims) (k : Env → World → Prop) (Q : Exit → Env → World → Prop) : Exit → Env → World → Prop := fun ex e w => blockQ ex 1 (q8 pr k Q) e w
def q14 (pr : Prims) (k : Env → World → Prop) (Q : Exit → Env → World → Prop) : Exit → Env → World → Prop := fun ex e w => blockQ ex 2 (q9 pr k Q) e w
def j2 (p_0 : Sl) (long_4 : Sl) (many_5 : Sl) : Env := [(0, Sl.v p_0), (4, Sl.v long_4), (5, Sl.v many_5)]
def emb3 (p_0 : Sl) (long_4 : Sl) (many_5 : Sl) (i_6 : Int) : Env := [(0, Sl.v p_0), (4, Sl.v long_4), (5, Sl.v many_5), (6, vI i_6)]
def emb7 (p_0 : Sl) (long_4 : Sl) (many_5 : Sl) (i_6 : Int) (k_7 : Int) : Env := [(0, Sl.v p_0), (4, Sl.v long_4), (5, Sl.v many_5), (6, vI i_6), (7, vI k_7)]
def x2 (p_0 : Sl) (long_4 : Sl) (many_5 : Sl) (i_6 : Int) : Env := [(0, Sl.v p_0), (4, Sl.v long_4), (5, Sl.v many_5), (6, vI i_6)]
def x0 (long_4 : Sl) (many_5 : Sl) : Env := [(4, Sl.v long_4), (5, Sl.v many_5)]
def S7 (pr : Prims) (Q : Exit → Env → World → Prop) : (Env → World → Prop) → Env → World → Prop := fun k e w => wpC pr PP cfg (DD pr) (sub (codeOf Try.f93) [1, 1, 0, 1, 0, 0, 1, 0, 0, 1, 1, 0, 0]) (fun ex e w => normQ ex (fun e' w' => k (Env.restr e' (lookN cfg.loops (keyOf (sub (codeOf Try.f93) [1, 1, 0, 1, 0, 0, 1, 0, 0, 1, 1, 0, 0])))) w') Q e w) e w
def S3 (pr : Prims) (Q : Exit → Env → World → Prop) : (Env → World → Prop) → Env → World → Prop := fun k e w => wpC pr PP cfg (DD pr) (sub (codeOf Try.f93) [1, 1, 0, 1, 0, 0]) (fun ex e w => normQ ex (fun e' w' => k (Env.restr e' (lookN cfg.loops (keyOf (sub (codeOf Try.f93) [1, 1, 0, 1, 0, 0])))) w') Q e w) e w
def B7 (pr : Prims) (p_0 : Sl) (long_4 : Sl) (many_5 : Sl) (i_6 : Int) (k_7 : Int) (w : World) (k : Env → World → Prop) (Q : Exit → Env → World → Prop) : Prop :=
  S7 pr Q k (emb7 p_0 long_4 many_5 i_6 k_7) w
def L7 (pr : Prims) (p_0 : Sl) (long_4 : Sl) (many_5 : Sl) (i_6 : Int) (k_7 : Int) (w : World) (Q : Exit → Env → World → Prop) : Prop :=
  pr.loop (S7 pr Q) (emb7 p_0 long_4 many_5 i_6 k_7) w
def B3 (pr : Prims) (p_0 : Sl) (long_4 : Sl) (many_5 : Sl) (i_6 : Int) (w : World) (k : Env → World → Prop) (Q : Exit → Env → World → Prop) : Prop :=
  S3 pr Q k (emb3 p_0 long_4 many_5 i_6) w
def L3 (pr : Prims) (p_0 : Sl) (long_4 : Sl) (many_5 : Sl) (i_6 : Int) (w : World) (Q : Exit → Env → World → Prop) : Prop :=
  pr.loop (S3 pr Q) (emb3 p_0 long_4 many_5 i_6) w
def J2 (pr : Prims) (p_0 : Sl) (long_4 : Sl) (many_5 : Sl) (w : World) (R : Ending → World → Prop) : Prop :=
  pr.seg (fun e w => wpC pr PP cfg (DD pr) (sub (codeOf Try.f93) [1, 1]) (retQ Try.f93.results.toList R) e w) (j2 p_0 long_4 many_5) w
def E (pr : Prims) (p_0 : Sl) (w : World) (R : Ending → World → Prop) : Prop :=
  wpC pr PP cfg (DD pr) (codeOf Try.f93) (retQ Try.f93.results.toList R) (argE 0 [Sl.v p_0]) w
theorem B7_eq (pr : Prims) (p_0 : Sl) (long_4 : Sl) (many_5 : Sl) (i_6 : Int) (k_7 : Int) (w : World) (k : Env → World → Prop) (Q : Exit → Env → World → Prop) : B7 pr p_0 long_4 many_5 i_6 k_7 w k Q = (
  bif decide (k_7 < (p_0.n : Int)) then (
  pr.idxK 1 p_0 k_7 fun (a15 : Addr) =>
  pr.load1 (.int .i64) a15 w fun (ξ16 : Int) =>
  pr.idxK 1 p_0 i_6 fun (a17 : Addr) =>
  pr.load1 (.int .i64) a17 w fun (ξ18 : Int) =>
  bif decide (ξ16 < ξ18) then (
  pr.drewAll w fun ω19 =>
  k (emb7 p_0 long_4 many_5 i_6 (w64 (k_7 + 1))) ω19)
  else (
  pr.idxK 1 long_4 k_7 fun (a20 : Addr) =>
  pr.load1 (.int .i64) a20 w fun (ξ21 : Int) =>
  pr.idxK 1 long_4 i_6 fun (a22 : Addr) =>
  pr.load1 (.int .i64) a22 w fun (ξ23 : Int) =>
  pr.drewAll w fun ω24 =>
  bif decide ((w64 (ξ21 + 1)) < ξ23) then (
  k (emb7 p_0 long_4 many_5 i_6 (w64 (k_7 + 1))) ω24)
  else (
  pr.idxK 1 long_4 k_7 fun (a25 : Addr) =>
  pr.load1 (.int .i64) a25 ω24 fun (ξ26 : Int) =>
  pr.idxK 1 long_4 i_6 fun (a27 : Addr) =>
  pr.load1 (.int .i64) a27 ω24 fun (ξ28 : Int) =>
  pr.drewAll ω24 fun ω29 =>
  bif decide ((w64 (ξ26 + 1)) > ξ28) then (
  pr.drewAll ω29 fun ω30 =>
  pr.idxK 1 long_4 k_7 fun (a31 : Addr) =>
  pr.idxK 1 many_5 k_7 fun (a32 : Addr) =>
  (pr.load1 (.int .i64) a31 ω30 fun (ξ33 : Int) =>
  pr.load1 (.int .i64) a32 ω30 fun (ξ34 : Int) =>
  pr.idxK 1 long_4 i_6 fun (a35 : Addr) =>
  pr.storeC a35 (vI (w64 (ξ33 + 1))) ω30 fun ω36 =>
  pr.idxK 1 many_5 i_6 fun (a37 : Addr) =>
  pr.storeC a37 (vI ξ34) ω36 fun ω38 =>
  k (emb7 p_0 long_4 many_5 i_6 (w64 (k_7 + 1))) ω38) ∧
  (pr.load1 (.int .i64) a32 ω30 fun (ξ39 : Int) =>
  pr.load1 (.int .i64) a31 ω30 fun (ξ40 : Int) =>
  pr.idxK 1 long_4 i_6 fun (a41 : Addr) =>
  pr.storeC a41 (vI (w64 (ξ40 + 1))) ω30 fun ω42 =>
  pr.idxK 1 many_5 i_6 fun (a43 : Addr) =>
  pr.storeC a43 (vI ξ39) ω42 fun ω44 =>
  k (emb7 p_0 long_4 many_5 i_6 (w64 (k_7 + 1))) ω44))
  else (
  pr.drewAll ω29 fun ω45 =>
  pr.idxK 1 many_5 i_6 fun (a46 : Addr) =>
  pr.idxK 1 many_5 k_7 fun (a47 : Addr) =>
  (pr.load1 (.int .i64) a46 ω45 fun (ξ48 : Int) =>
  pr.load1 (.int .i64) a47 ω45 fun (ξ49 : Int) =>
  pr.idxK 1 many_5 i_6 fun (a50 : Addr) =>
  pr.storeC a50 (vI (w64 (ξ48 + ξ49))) ω45 fun ω51 =>
  k (emb7 p_0 long_4 many_5 i_6 (w64 (k_7 + 1))) ω51) ∧
  (pr.load1 (.int .i64) a47 ω45 fun (ξ52 : Int) =>
  pr.load1 (.int .i64) a46 ω45 fun (ξ53 : Int) =>
  pr.idxK 1 many_5 i_6 fun (a54 : Addr) =>
  pr.storeC a54 (vI (w64 (ξ53 + ξ52))) ω45 fun ω55 =>
  k (emb7 p_0 long_4 many_5 i_6 (w64 (k_7 + 1))) ω55)))))
  else (
  Q (.exit 2) (x2 p_0 long_4 many_5 i_6) w)) := by kernel_rfl
theorem B7_s (p_0 : Sl) (long_4 : Sl) (many_5 : Sl) (i_6 : Int) (k_7 : Int) (w : World) (k : Env → World → Prop) (Q : Exit → Env → World → Prop) : B7 std p_0 long_4 many_5 i_6 k_7 w k Q = (
  bif decide (k_7 < (p_0.n : Int)) then (
  idxK 1 p_0 k_7 fun (a15 : Addr) =>
  load1 (.int .i64) a15 w fun (ξ16 : Int) =>
  idxK 1 p_0 i_6 fun (a17 : Addr) =>
  load1 (.int .i64) a17 w fun (ξ18 : Int) =>
  bif decide (ξ16 < ξ18) then (
  drewAll w fun ω19 =>
  k (emb7 p_0 long_4 many_5 i_6 (w64 (k_7 + 1))) ω19)
  else (
  idxK 1 long_4 k_7 fun (a20 : Addr) =>
  load1 (.int .i64) a20 w fun (ξ21 : Int) =>
  idxK 1 long_4 i_6 fun (a22 : Addr) =>
  load1 (.int .i64) a22 w fun (ξ23 : Int) =>
  drewAll w fun ω24 =>
  bif decide ((w64 (ξ21 + 1)) < ξ23) then (
  k (emb7 p_0 long_4 many_5 i_6 (w64 (k_7 + 1))) ω24)
  else (
  idxK 1 long_4 k_7 fun (a25 : Addr) =>
  load1 (.int .i64) a25 ω24 fun (ξ26 : Int) =>
  idxK 1 long_4 i_6 fun (a27 : Addr) =>
  load1 (.int .i64) a27 ω24 fun (ξ28 : Int) =>
  drewAll ω24 fun ω29 =>
  bif decide ((w64 (ξ26 + 1)) > ξ28) then (
  drewAll ω29 fun ω30 =>
  idxK 1 long_4 k_7 fun (a31 : Addr) =>
  idxK 1 many_5 k_7 fun (a32 : Addr) =>
  (load1 (.int .i64) a31 ω30 fun (ξ33 : Int) =>
  load1 (.int .i64) a32 ω30 fun (ξ34 : Int) =>
  idxK 1 long_4 i_6 fun (a35 : Addr) =>
  storeC a35 (vI (w64 (ξ33 + 1))) ω30 fun ω36 =>
  idxK 1 many_5 i_6 fun (a37 : Addr) =>
  storeC a37 (vI ξ34) ω36 fun ω38 =>
  k (emb7 p_0 long_4 many_5 i_6 (w64 (k_7 + 1))) ω38) ∧
  (load1 (.int .i64) a32 ω30 fun (ξ39 : Int) =>
  load1 (.int .i64) a31 ω30 fun (ξ40 : Int) =>
  idxK 1 long_4 i_6 fun (a41 : Addr) =>
  storeC a41 (vI (w64 (ξ40 + 1))) ω30 fun ω42 =>
  idxK 1 many_5 i_6 fun (a43 : Addr) =>
  storeC a43 (vI ξ39) ω42 fun ω44 =>
  k (emb7 p_0 long_4 many_5 i_6 (w64 (k_7 + 1))) ω44))
  else (
  drewAll ω29 fun ω45 =>
  idxK 1 many_5 i_6 fun (a46 : Addr) =>
  idxK 1 many_5 k_7 fun (a47 : Addr) =>
  (load1 (.int .i64) a46 ω45 fun (ξ48 : Int) =>
  load1 (.int .i64) a47 ω45 fun (ξ49 : Int) =>
  idxK 1 many_5 i_6 fun (a50 : Addr) =>
  storeC a50 (vI (w64 (ξ48 + ξ49))) ω45 fun ω51 =>
  k (emb7 p_0 long_4 many_5 i_6 (w64 (k_7 + 1))) ω51) ∧
  (load1 (.int .i64) a47 ω45 fun (ξ52 : Int) =>
  load1 (.int .i64) a46 ω45 fun (ξ53 : Int) =>
  idxK 1 many_5 i_6 fun (a54 : Addr) =>
  storeC a54 (vI (w64 (ξ53 + ξ52))) ω45 fun ω55 =>
  k (emb7 p_0 long_4 many_5 i_6 (w64 (k_7 + 1))) ω55)))))
  else (
  Q (.exit 2) (x2 p_0 long_4 many_5 i_6) w)) := B7_eq std p_0 long_4 many_5 i_6 k_7 w k Q
theorem L7_rule (p_0 : Sl) (long_4 : Sl) (many_5 : Sl) (i_6 : Int) (k_7 : Int) (w : World) (Q : Exit → Env → World → Prop) (I : Int → World → Prop) (μ : Int → World → Nat) (h0 : I k_7 w)
    (h : ∀ (k_7 : Int) (w' : World), I k_7 w' → B7 std p_0 long_4 many_5 i_6 k_7 w' (fun e2 w2 => ∃ k_7_n, e2 = emb7 p_0 long_4 many_5 i_6 k_7_n ∧ I k_7_n w2 ∧ μ k_7_n w2 < μ k_7 w') Q) :
    L7 std p_0 long_4 many_5 i_6 k_7 w Q := by
  unfold L7
  refine LoopE.intro (σ := Int) (step := S7 std Q) (fun s => emb7 p_0 long_4 many_5 i_6 s) (fun s w => I s w) (fun s w => μ s w) k_7 rfl h0 ?_
  intro s w' hI
  have h1 := h s w' hI
  unfold B7 at h1
  exact h1
theorem A7_2_eq (pr : Prims) (p_0 : Sl) (long_4 : Sl) (many_5 : Sl) (i_6 : Int) (w : World) (k : Env → World → Prop) (Q : Exit → Env → World → Prop) : (q14 pr k Q) (.exit 2) (x2 p_0 long_4 many_5 i_6) w = (
  k (emb3 p_0 long_4 many_5 (w64 (i_6 - 1))) w) := by kernel_rfl
theorem A7_2_s (p_0 : Sl) (long_4 : Sl) (many_5 : Sl) (i_6 : Int) (w : World) (k : Env → World → Prop) (Q : Exit → Env → World → Prop) : (q14 std k Q) (.exit 2) (x2 p_0 long_4 many_5 i_6) w = (
  k (emb3 p_0 long_4 many_5 (w64 (i_6 - 1))) w) := A7_2_eq std p_0 long_4 many_5 i_6 w k Q
theorem B3_eq (pr : Prims) (p_0 : Sl) (long_4 : Sl) (many_5 : Sl) (i_6 : Int) (w : World) (k : Env → World → Prop) (Q : Exit → Env → World → Prop) : B3 pr p_0 long_4 many_5 i_6 w k Q = (
  bif decide (i_6 ≥ 0) then (
  pr.idxK 1 long_4 i_6 fun (a10 : Addr) =>
  pr.storeC a10 (vI 1) w fun ω11 =>
  pr.idxK 1 many_5 i_6 fun (a12 : Addr) =>
  pr.storeC a12 (vI 1) ω11 fun ω13 =>
  L7 pr p_0 long_4 many_5 i_6 (w64 (i_6 + 1)) ω13 (q14 pr k Q))
  else (
  Q (.exit 0) (x0 long_4 many_5) w)) := by kernel_rfl
theorem B3_s (p_0 : Sl) (long_4 : Sl) (many_5 : Sl) (i_6 : Int) (w : World) (k : Env → World → Prop) (Q : Exit → Env → World → Prop) : B3 std p_0 long_4 many_5 i_6 w k Q = (
  bif decide (i_6 ≥ 0) then (
  idxK 1 long_4 i_6 fun (a10 : Addr) =>
  storeC a10 (vI 1) w fun ω11 =>
  idxK 1 many_5 i_6 fun (a12 : Addr) =>
  storeC a12 (vI 1) ω11 fun ω13 =>
  L7 std p_0 long_4 many_5 i_6 (w64 (i_6 + 1)) ω13 (q14 std k Q))
  else (
  Q (.exit 0) (x0 long_4 many_5) w)) := B3_eq std p_0 long_4 many_5 i_6 w k Q
theorem L3_rule (p_0 : Sl) (long_4 : Sl) (many_5 : Sl) (i_6 : Int) (w : World) (Q : Exit → Env → World → Prop) (I : Int → World → Prop) (μ : Int → World → Nat) (h0 : I i_6 w)
    (h : ∀ (i_6 : Int) (w' : World), I i_6 w' → B3 std p_0 long_4 many_5 i_6 w' (fun e2 w2 => ∃ i_6_n, e2 = emb3 p_0 long_4 many_5 i_6_n ∧ I i_6_n w2 ∧ μ i_6_n w2 < μ i_6 w') Q) :
    L3 std p_0 long_4 many_5 i_6 w Q := by
  unfold L3
  refine LoopE.intro (σ := Int) (step := S3 std Q) (fun s => emb3 p_0 long_4 many_5 s) (fun s w => I s w) (fun s w => μ s w) i_6 rfl h0 ?_
  intro s w' hI
  have h1 := h s w' hI
  unfold B3 at h1
  exact h1
theorem A3_0_eq (pr : Prims) (long_4 : Sl) (many_5 : Sl) (w : World) (R : Ending → World → Prop) : (q7 pr R) (.exit 0) (x0 long_4 many_5) w = (
  R (.returned (.tuple #[Sl.v long_4, Sl.v many_5])) w) := by kernel_rfl
theorem A3_0_s (long_4 : Sl) (many_5 : Sl) (w : World) (R : Ending → World → Prop) : (q7 std R) (.exit 0) (x0 long_4 many_5) w = (
  R (.returned (.tuple #[Sl.v long_4, Sl.v many_5])) w) := A3_0_eq std long_4 many_5 w R
theorem J2_gen (pr : Prims) (p_0 : Sl) (long_4 : Sl) (many_5 : Sl) (w : World) (R : Ending → World → Prop) : wpC pr PP cfg (DD pr) (sub (codeOf Try.f93) [1, 1]) (retQ Try.f93.results.toList R) (j2 p_0 long_4 many_5) w = (
  L3 pr p_0 long_4 many_5 (w64 ((p_0.n : Int) - 1)) w (q7 pr R)) := by kernel_rfl
theorem J2_s (p_0 : Sl) (long_4 : Sl) (many_5 : Sl) (w : World) (R : Ending → World → Prop) : J2 std p_0 long_4 many_5 w R = (
  L3 std p_0 long_4 many_5 (w64 ((p_0.n : Int) - 1)) w (q7 std R)) := J2_gen std p_0 long_4 many_5 w R
theorem E_eq (pr : Prims) (p_0 : Sl) (w : World) (R : Ending → World → Prop) : E pr p_0 w R = (
  pr.drewAll w fun ω1 =>
  (pr.sem1 .sl PP (Instr.makeSlice T_Sint (vI (p_0.n : Int)) (vI (p_0.n : Int))) ω1 fun (ρ2 : Sl) ω3 =>
  pr.sem1 .sl PP (Instr.makeSlice T_Sint (vI (p_0.n : Int)) (vI (p_0.n : Int))) ω3 fun (ρ4 : Sl) ω5 =>
  J2 pr p_0 ρ2 ρ4 ω5 R) ∧
  (pr.sem1 .sl PP (Instr.makeSlice T_Sint (vI (p_0.n : Int)) (vI (p_0.n : Int))) ω1 fun (ρ56 : Sl) ω57 =>
  pr.sem1 .sl PP (Instr.makeSlice T_Sint (vI (p_0.n : Int)) (vI (p_0.n : Int))) ω57 fun (ρ58 : Sl) ω59 =>
  J2 pr p_0 ρ58 ρ56 ω59 R)) := by kernel_rfl
theorem E_s (p_0 : Sl) (w : World) (R : Ending → World → Prop) : E std p_0 w R = (
  drewAll w fun ω1 =>
  (sem1 .sl PP (Instr.makeSlice T_Sint (vI (p_0.n : Int)) (vI (p_0.n : Int))) ω1 fun (ρ2 : Sl) ω3 =>
  sem1 .sl PP (Instr.makeSlice T_Sint (vI (p_0.n : Int)) (vI (p_0.n : Int))) ω3 fun (ρ4 : Sl) ω5 =>
  J2 std p_0 ρ2 ρ4 ω5 R) ∧
  (sem1 .sl PP (Instr.makeSlice T_Sint (vI (p_0.n : Int)) (vI (p_0.n : Int))) ω1 fun (ρ56 : Sl) ω57 =>
  sem1 .sl PP (Instr.makeSlice T_Sint (vI (p_0.n : Int)) (vI (p_0.n : Int))) ω57 fun (ρ58 : Sl) ω59 =>
  J2 std p_0 ρ58 ρ56 ω59 R)) := E_eq std p_0 w R
theorem drawsOk : drawsOk PP cfg okD (codeOf Try.f93) = true := by kernel_rfl
theorem calls (p_0 : Sl) {w : World} {R : Ending → World → Prop} (h : E std p_0 w R) : Calls PP F.impl_lengths #[Sl.v p_0] w R :=
  calls_of noCount mixed drawOk Try.func93 rfl (c := cfg) (args := [Sl.v p_0]) rfl (Nat.le_of_ble_eq_true (by kernel_rfl)) drawsOk h
end impl_lengths

namespace impl_longestUp
@[reducible] def cfg : Cfg := ⟨24, [(4, [5, 13, 14, 15])], [(1, [5, 13, 14, 15]), (0, [5])], [], [2], [], [101, 107, 112, 15, 21, 124, 76, 137, 28, 115, 91, 81, 130], [138, 140, 82, 6, 86, 85, 132]⟩
def q3 (pr : Prims) (R : Ending → World → Prop) : Exit → Env → World → Prop := fun ex e w => normQ ex (fun e w => contE pr cfg (sub (codeOf Try.f94) [1, 1, 1, 1]) (fun e w => wpC pr PP cfg (DD pr) (sub (codeOf Try.f94) [1, 1, 1, 1]) (retQ Try.f94.results.toList R) e w) e w) (retQ Try.f94.results.toList R) e w
def q4 (pr : Prims) (R : Ending → World → Prop) : Exit → Env → World → Prop := fun ex e w => blockQ ex 0 (q3 pr R) e w
def emb4 (most_5 : Int) (t13 : Sl) (t14 : Int) (t15 : Int) : Env := [(5, vI most_5), (13, Sl.v t13), (14, vI t14), (15, vI t15)]
def x0 (most_5 : Int) : Env := [(5, vI most_5)]
def S4 (pr : Prims) (Q : Exit → Env → World → Prop) : (Env → World → Prop) → Env → World → Prop := fun k e w => wpC pr PP cfg (DD pr) (sub (codeOf Try.f94) [1, 1, 1, 0, 1, 0, 0]) (fun ex e w => normQ ex (fun e' w' => k (Env.restr e' (lookN cfg.loops (keyOf (sub (codeOf Try.f94) [1, 1, 1, 0, 1, 0, 0])))) w') Q e w) e w
def B4 (pr : Prims) (most_5 : Int) (t13 : Sl) (t14 : Int) (t15 : Int) (w : World) (k : Env → World → Prop) (Q : Exit → Env → World → Prop) : Prop :=
  S4 pr Q k (emb4 most_5 t13 t14 t15) w
def L4 (pr : Prims) (most_5 : Int) (t13 : Sl) (t14 : Int) (t15 : Int) (w : World) (Q : Exit → Env → World → Prop) : Prop :=
  pr.loop (S4 pr Q) (emb4 most_5 t13 t14 t15) w
def E (pr : Prims) (p_0 : Sl) (w : World) (R : Ending → World → Prop) : Prop :=
  wpC pr PP cfg (DD pr) (codeOf Try.f94) (retQ Try.f94.results.toList R) (argE 0 [Sl.v p_0]) w
theorem B4_eq (pr : Prims) (most_5 : Int) (t13 : Sl) (t14 : Int) (t15 : Int) (w : World) (k : Env → World → Prop) (Q : Exit → Env → World → Prop) : B4 pr most_5 t13 t14 t15 w k Q = (
  bif decide (t15 < t14) then (
  pr.idxK 1 t13 t15 fun (a5 : Addr) =>
  pr.load1 (.int .i64) a5 w fun (ξ6 : Int) =>
  k (emb4 (if ξ6 > most_5 then ξ6 else most_5) t13 t14 (w64 (t15 + 1))) w)
  else (
  Q (.exit 0) (x0 most_5) w)) := by kernel_rfl
theorem B4_s (most_5 : Int) (t13 : Sl) (t14 : Int) (t15 : Int) (w : World) (k : Env → World → Prop) (Q : Exit → Env → World → Prop) : B4 std most_5 t13 t14 t15 w k Q = (
  bif decide (t15 < t14) then (
  idxK 1 t13 t15 fun (a5 : Addr) =>
  load1 (.int .i64) a5 w fun (ξ6 : Int) =>
  k (emb4 (if ξ6 > most_5 then ξ6 else most_5) t13 t14 (w64 (t15 + 1))) w)
  else (
  Q (.exit 0) (x0 most_5) w)) := B4_eq std most_5 t13 t14 t15 w k Q
theorem L4_rule (most_5 : Int) (t13 : Sl) (t14 : Int) (t15 : Int) (w : World) (Q : Exit → Env → World → Prop) (I : Int → Int → World → Prop) (μ : Int → Int → World → Nat) (h0 : I most_5 t15 w)
    (h : ∀ (most_5 : Int) (t15 : Int) (w' : World), I most_5 t15 w' → B4 std most_5 t13 t14 t15 w' (fun e2 w2 => ∃ most_5_n t15_n, e2 = emb4 most_5_n t13 t14 t15_n ∧ I most_5_n t15_n w2 ∧ μ most_5_n t15_n w2 < μ most_5 t15 w') Q) :
    L4 std most_5 t13 t14 t15 w Q := by
  unfold L4
  refine LoopE.intro (σ := Int × Int) (step := S4 std Q) (fun s => emb4 s.1 t13 t14 s.2) (fun s w => I s.1 s.2 w) (fun s w => μ s.1 s.2 w) (most_5, t15) rfl h0 ?_
  intro s w' hI
  have h1 := h s.1 s.2 w' hI
  unfold B4 at h1
  simp only [Prod.exists]
  exact h1
theorem A4_0_eq (pr : Prims) (most_5 : Int) (w : World) (R : Ending → World → Prop) : (q4 pr R) (.exit 0) (x0 most_5) w = (
  R (.returned (vI most_5)) w) := by kernel_rfl
theorem A4_0_s (most_5 : Int) (w : World) (R : Ending → World → Prop) : (q4 std R) (.exit 0) (x0 most_5) w = (
  R (.returned (vI most_5)) w) := A4_0_eq std most_5 w R
theorem E_eq (pr : Prims) (p_0 : Sl) (w : World) (R : Ending → World → Prop) : E pr p_0 w R = (
  pr.call2 .sl .sl PP F.impl_lengths #[Sl.v p_0] w fun (ρ0 : Sl) (ρ1 : Sl) ω2 =>
  L4 pr 0 ρ0 (ρ0.n : Int) 0 ω2 (q4 pr R)) := by kernel_rfl
theorem E_s (p_0 : Sl) (w : World) (R : Ending → World → Prop) : E std p_0 w R = (
  call2 .sl .sl PP F.impl_lengths #[Sl.v p_0] w fun (ρ0 : Sl) (ρ1 : Sl) ω2 =>
  L4 std 0 ρ0 (ρ0.n : Int) 0 ω2 (q4 std R)) := E_eq std p_0 w R
theorem drawsOk : drawsOk PP cfg okD (codeOf Try.f94) = true := by kernel_rfl
theorem calls (p_0 : Sl) {w : World} {R : Ending → World → Prop} (h : E std p_0 w R) : Calls PP F.impl_longestUp #[Sl.v p_0] w R :=
  calls_of noCount mixed drawOk Try.func94 rfl (c := cfg) (args := [Sl.v p_0]) rfl (Nat.le_of_ble_eq_true (by kernel_rfl)) drawsOk h
end impl_longestUp

namespace impl_LongestUp
@[reducible] def cfg : Cfg := ⟨8, [], [], [], [2], [], [101, 107, 112, 15, 21, 124, 76, 137, 28, 115, 91, 81, 130], [138, 140, 82, 6, 86, 85, 132]⟩
def E (pr : Prims) (p_0 : Sl) (w : World) (R : Ending → World → Prop) : Prop :=
  wpC pr PP cfg (DD pr) (codeOf Try.f41) (retQ Try.f41.results.toList R) (argE 0 [Sl.v p_0]) w
theorem E_eq (pr : Prims) (p_0 : Sl) (w : World) (R : Ending → World → Prop) : E pr p_0 w R = (
  pr.call1 .bool PP F.impl_IsPerm #[Sl.v p_0] w fun (ρ0 : Bool) ω1 =>
  bif !ρ0 then (
  R (.returned (vI (-1))) ω1)
  else (
  pr.call1 (.int .i64) PP F.impl_longestUp #[Sl.v p_0] ω1 fun (ρ2 : Int) ω3 =>
  R (.returned (vI ρ2)) ω3)) := by kernel_rfl
theorem E_s (p_0 : Sl) (w : World) (R : Ending → World → Prop) : E std p_0 w R = (
  call1 .bool PP F.impl_IsPerm #[Sl.v p_0] w fun (ρ0 : Bool) ω1 =>
  bif !ρ0 then (
  R (.returned (vI (-1))) ω1)
  else (
  call1 (.int .i64) PP F.impl_longestUp #[Sl.v p_0] ω1 fun (ρ2 : Int) ω3 =>
  R (.returned (vI ρ2)) ω3)) := E_eq std p_0 w R
theorem drawsOk : drawsOk PP cfg okD (codeOf Try.f41) = true := by kernel_rfl
theorem calls (p_0 : Sl) {w : World} {R : Ending → World → Prop} (h : E std p_0 w R) : Calls PP F.impl_LongestUp #[Sl.v p_0] w R :=
  calls_of noCount mixed drawOk Try.func41 rfl (c := cfg) (args := [Sl.v p_0]) rfl (Nat.le_of_ble_eq_true (by kernel_rfl)) drawsOk h
end impl_LongestUp

namespace impl_LongestDown
@[reducible] def cfg : Cfg := ⟨9, [], [], [], [2], [], [101, 107, 112, 15, 21, 124, 76, 137, 28, 115, 91, 81, 130], [138, 140, 82, 6, 86, 85, 132]⟩
def E (pr : Prims) (p_0 : Sl) (w : World) (R : Ending → World → Prop) : Prop :=
  wpC pr PP cfg (DD pr) (codeOf Try.f43) (retQ Try.f43.results.toList R) (argE 0 [Sl.v p_0]) w
theorem E_eq (pr : Prims) (p_0 : Sl) (w : World) (R : Ending → World → Prop) : E pr p_0 w R = (
  pr.call1 .bool PP F.impl_IsPerm #[Sl.v p_0] w fun (ρ0 : Bool) ω1 =>
  bif !ρ0 then (
  R (.returned (vI (-1))) ω1)
  else (
  pr.call1 .sl PP F.impl_reverse #[Sl.v p_0] ω1 fun (ρ2 : Sl) ω3 =>
  pr.call1 (.int .i64) PP F.impl_longestUp #[Sl.v ρ2] ω3 fun (ρ4 : Int) ω5 =>
  R (.returned (vI ρ4)) ω5)) := by kernel_rfl
theorem E_s (p_0 : Sl) (w : World) (R : Ending → World → Prop) : E std p_0 w R = (
  call1 .bool PP F.impl_IsPerm #[Sl.v p_0] w fun (ρ0 : Bool) ω1 =>
  bif !ρ0 then (
  R (.returned (vI (-1))) ω1)
  else (
  call1 .sl PP F.impl_reverse #[Sl.v p_0] ω1 fun (ρ2 : Sl) ω3 =>
  call1 (.int .i64) PP F.impl_longestUp #[Sl.v ρ2] ω3 fun (ρ4 : Int) ω5 =>
  R (.returned (vI ρ4)) ω5)) := E_eq std p_0 w R
theorem drawsOk : drawsOk PP cfg okD (codeOf Try.f43) = true := by kernel_rfl
theorem calls (p_0 : Sl) {w : World} {R : Ending → World → Prop} (h : E std p_0 w R) : Calls PP F.impl_LongestDown #[Sl.v p_0] w R :=
  calls_of noCount mixed drawOk Try.func43 rfl (c := cfg) (args := [Sl.v p_0]) rfl (Nat.le_of_ble_eq_true (by kernel_rfl)) drawsOk h
end impl_LongestDown

namespace impl_reverse
@[reducible] def cfg : Cfg := ⟨9, [], [], [], [2], [], [101, 107, 112, 15, 21, 124, 76, 137, 28, 115, 91, 81, 130], [138, 140, 82, 6, 86, 85, 132]⟩
def E (pr : Prims) (p_0 : Sl) (w : World) (R : Ending → World → Prop) : Prop :=
  wpC pr PP cfg (DD pr) (codeOf Try.f97) (retQ Try.f97.results.toList R) (argE 0 [Sl.v p_0]) w
theorem E_eq (pr : Prims) (p_0 : Sl) (w : World) (R : Ending → World → Prop) : E pr p_0 w R = (
  pr.call1 .sl PP F.slices_Clone___int_int_ #[Sl.v p_0] w fun (ρ0 : Sl) ω1 =>
  pr.call0  PP F.slices_Reverse___int_int_ #[Sl.v ρ0] ω1 fun ω2 =>
  R (.returned (Sl.v ρ0)) ω2) := by kernel_rfl
theorem E_s (p_0 : Sl) (w : World) (R : Ending → World → Prop) : E std p_0 w R = (
  call1 .sl PP F.slices_Clone___int_int_ #[Sl.v p_0] w fun (ρ0 : Sl) ω1 =>
  call0  PP F.slices_Reverse___int_int_ #[Sl.v ρ0] ω1 fun ω2 =>
  R (.returned (Sl.v ρ0)) ω2) := E_eq std p_0 w R
theorem drawsOk : drawsOk PP cfg okD (codeOf Try.f97) = true := by kernel_rfl
theorem calls (p_0 : Sl) {w : World} {R : Ending → World → Prop} (h : E std p_0 w R) : Calls PP F.impl_reverse #[Sl.v p_0] w R :=
  calls_of noCount mixed drawOk Try.func97 rfl (c := cfg) (args := [Sl.v p_0]) rfl (Nat.le_of_ble_eq_true (by kernel_rfl)) drawsOk h
end impl_reverse

namespace impl_HasLongRun
@[reducible] def cfg : Cfg := ⟨22, [], [], [], [6], [], [101, 107, 112, 15, 21, 124, 76, 137, 28, 115, 91, 81, 130], [138, 140, 82, 6, 86, 85, 132]⟩
def E (pr : Prims) (p_0 : Sl) (k_1 : Int) (m_2 : Int) (w : World) (R : Ending → World → Prop) : Prop :=
  wpC pr PP cfg (DD pr) (codeOf Try.f39) (retQ Try.f39.results.toList R) (argE 0 [Sl.v p_0, vI k_1, vI m_2]) w
theorem E_eq (pr : Prims) (p_0 : Sl) (k_1 : Int) (m_2 : Int) (w : World) (R : Ending → World → Prop) : E pr p_0 k_1 m_2 w R = (
  pr.call1 .bool PP F.impl_IsPerm #[Sl.v p_0] w fun (ρ0 : Bool) ω1 =>
  bif ρ0 then (
  pr.call1 (.int .i64) PP F.impl_longestUp #[Sl.v p_0] ω1 fun (ρ2 : Int) ω3 =>
  bif decide (ρ2 > k_1) then (
  R (.returned (.bool true)) ω3)
  else (
  pr.call1 .sl PP F.impl_reverse #[Sl.v p_0] ω3 fun (ρ4 : Sl) ω5 =>
  pr.call1 (.int .i64) PP F.impl_longestUp #[Sl.v ρ4] ω5 fun (ρ6 : Int) ω7 =>
  R (.returned (.bool (decide (ρ6 > m_2)))) ω7))
  else (
  R (.returned (.bool false)) ω1)) := by kernel_rfl
theorem E_s (p_0 : Sl) (k_1 : Int) (m_2 : Int) (w : World) (R : Ending → World → Prop) : E std p_0 k_1 m_2 w R = (
  call1 .bool PP F.impl_IsPerm #[Sl.v p_0] w fun (ρ0 : Bool) ω1 =>
  bif ρ0 then (
  call1 (.int .i64) PP F.impl_longestUp #[Sl.v p_0] ω1 fun (ρ2 : Int) ω3 =>
  bif decide (ρ2 > k_1) then (
  R (.returned (.bool true)) ω3)
  else (
  call1 .sl PP F.impl_reverse #[Sl.v p_0] ω3 fun (ρ4 : Sl) ω5 =>
  call1 (.int .i64) PP F.impl_longestUp #[Sl.v ρ4] ω5 fun (ρ6 : Int) ω7 =>
  R (.returned (.bool (decide (ρ6 > m_2)))) ω7))
  else (
  R (.returned (.bool false)) ω1)) := E_eq std p_0 k_1 m_2 w R
theorem drawsOk : drawsOk PP cfg okD (codeOf Try.f39) = true := by kernel_rfl
theorem calls (p_0 : Sl) (k_1 : Int) (m_2 : Int) {w : World} {R : Ending → World → Prop} (h : E std p_0 k_1 m_2 w R) : Calls PP F.impl_HasLongRun #[Sl.v p_0, vI k_1, vI m_2] w R :=
  calls_of noCount mixed drawOk Try.func39 rfl (c := cfg) (args := [Sl.v p_0, vI k_1, vI m_2]) rfl (Nat.le_of_ble_eq_true (by kernel_rfl)) drawsOk h
end impl_HasLongRun

namespace spec_LongestUp
@[reducible] def cfg : Cfg := ⟨8, [], [], [], [2], [], [101, 107, 112, 15, 21, 124, 76, 137, 28, 115, 91, 81, 130], [138, 140, 82, 6, 86, 85, 132]⟩
def E (pr : Prims) (p_0 : Sl) (w : World) (R : Ending → World → Prop) : Prop :=
  wpC pr PP cfg (DD pr) (codeOf Try.f42) (retQ Try.f42.results.toList R) (argE 0 [Sl.v p_0]) w
theorem E_eq (pr : Prims) (p_0 : Sl) (w : World) (R : Ending → World → Prop) : E pr p_0 w R = (
  pr.call1 .bool PP F.spec_IsPerm #[Sl.v p_0] w fun (ρ0 : Bool) ω1 =>
  bif !ρ0 then (
  R (.returned (vI (-1))) ω1)
  else (
  pr.call1 (.int .i64) PP F.spec_l20Up #[Sl.v p_0] ω1 fun (ρ2 : Int) ω3 =>
  R (.returned (vI ρ2)) ω3)) := by kernel_rfl
theorem E_s (p_0 : Sl) (w : World) (R : Ending → World → Prop) : E std p_0 w R = (
  call1 .bool PP F.spec_IsPerm #[Sl.v p_0] w fun (ρ0 : Bool) ω1 =>
  bif !ρ0 then (
  R (.returned (vI (-1))) ω1)
  else (
  call1 (.int .i64) PP F.spec_l20Up #[Sl.v p_0] ω1 fun (ρ2 : Int) ω3 =>
  R (.returned (vI ρ2)) ω3)) := E_eq std p_0 w R
theorem drawsOk : drawsOk PP cfg okD (codeOf Try.f42) = true := by kernel_rfl
theorem calls (p_0 : Sl) {w : World} {R : Ending → World → Prop} (h : E std p_0 w R) : Calls PP F.spec_LongestUp #[Sl.v p_0] w R :=
  calls_of noCount mixed drawOk Try.func42 rfl (c := cfg) (args := [Sl.v p_0]) rfl (Nat.le_of_ble_eq_true (by kernel_rfl)) drawsOk h
end spec_LongestUp

namespace spec_LongestDown
@[reducible] def cfg : Cfg := ⟨9, [], [], [], [2], [], [101, 107, 112, 15, 21, 124, 76, 137, 28, 115, 91, 81, 130], [138, 140, 82, 6, 86, 85, 132]⟩
def E (pr : Prims) (p_0 : Sl) (w : World) (R : Ending → World → Prop) : Prop :=
  wpC pr PP cfg (DD pr) (codeOf Try.f44) (retQ Try.f44.results.toList R) (argE 0 [Sl.v p_0]) w
theorem E_eq (pr : Prims) (p_0 : Sl) (w : World) (R : Ending → World → Prop) : E pr p_0 w R = (
  pr.call1 .bool PP F.spec_IsPerm #[Sl.v p_0] w fun (ρ0 : Bool) ω1 =>
  bif !ρ0 then (
  R (.returned (vI (-1))) ω1)
  else (
  pr.call1 .sl PP F.spec_l3Reverse #[Sl.v p_0] ω1 fun (ρ2 : Sl) ω3 =>
  pr.call1 (.int .i64) PP F.spec_l20Up #[Sl.v ρ2] ω3 fun (ρ4 : Int) ω5 =>
  R (.returned (vI ρ4)) ω5)) := by kernel_rfl
theorem E_s (p_0 : Sl) (w : World) (R : Ending → World → Prop) : E std p_0 w R = (
  call1 .bool PP F.spec_IsPerm #[Sl.v p_0] w fun (ρ0 : Bool) ω1 =>
  bif !ρ0 then (
  R (.returned (vI (-1))) ω1)
  else (
  call1 .sl PP F.spec_l3Reverse #[Sl.v p_0] ω1 fun (ρ2 : Sl) ω3 =>
  call1 (.int .i64) PP F.spec_l20Up #[Sl.v ρ2] ω3 fun (ρ4 : Int) ω5 =>
  R (.returned (vI ρ4)) ω5)) := E_eq std p_0 w R
theorem drawsOk : drawsOk PP cfg okD (codeOf Try.f44) = true := by kernel_rfl
theorem calls (p_0 : Sl) {w : World} {R : Ending → World → Prop} (h : E std p_0 w R) : Calls PP F.spec_LongestDown #[Sl.v p_0] w R :=
  calls_of noCount mixed drawOk Try.func44 rfl (c := cfg) (args := [Sl.v p_0]) rfl (Nat.le_of_ble_eq_true (by kernel_rfl)) drawsOk h
end spec_LongestDown

namespace spec_HasLongRun
@[reducible] def cfg : Cfg := ⟨22, [], [], [], [6], [], [101, 107, 112, 15, 21, 124, 76, 137, 28, 115, 91, 81, 130], [138, 140, 82, 6, 86, 85, 132]⟩
def E (pr : Prims) (p_0 : Sl) (k_1 : Int) (m_2 : Int) (w : World) (R : Ending → World → Prop) : Prop :=
  wpC pr PP cfg (DD pr) (codeOf Try.f40) (retQ Try.f40.results.toList R) (argE 0 [Sl.v p_0, vI k_1, vI m_2]) w
theorem E_eq (pr : Prims) (p_0 : Sl) (k_1 : Int) (m_2 : Int) (w : World) (R : Ending → World → Prop) : E pr p_0 k_1 m_2 w R = (
  pr.call1 .bool PP F.spec_IsPerm #[Sl.v p_0] w fun (ρ0 : Bool) ω1 =>
  bif ρ0 then (
  pr.call1 (.int .i64) PP F.spec_l20Up #[Sl.v p_0] ω1 fun (ρ2 : Int) ω3 =>
  bif decide (ρ2 > k_1) then (
  R (.returned (.bool true)) ω3)
  else (
  pr.call1 .sl PP F.spec_l3Reverse #[Sl.v p_0] ω3 fun (ρ4 : Sl) ω5 =>
  pr.call1 (.int .i64) PP F.spec_l20Up #[Sl.v ρ4] ω5 fun (ρ6 : Int) ω7 =>
  R (.returned (.bool (decide (ρ6 > m_2)))) ω7))
  else (
  R (.returned (.bool false)) ω1)) := by kernel_rfl
theorem E_s (p_0 : Sl) (k_1 : Int) (m_2 : Int) (w : World) (R : Ending → World → Prop) : E std p_0 k_1 m_2 w R = (
  call1 .bool PP F.spec_IsPerm #[Sl.v p_0] w fun (ρ0 : Bool) ω1 =>
  bif ρ0 then (
  call1 (.int .i64) PP F.spec_l20Up #[Sl.v p_0] ω1 fun (ρ2 : Int) ω3 =>
  bif decide (ρ2 > k_1) then (
  R (.returned (.bool true)) ω3)
  else (
  call1 .sl PP F.spec_l3Reverse #[Sl.v p_0] ω3 fun (ρ4 : Sl) ω5 =>
  call1 (.int .i64) PP F.spec_l20Up #[Sl.v ρ4] ω5 fun (ρ6 : Int) ω7 =>
  R (.returned (.bool (decide (ρ6 > m_2)))) ω7))
  else (
  R (.returned (.bool false)) ω1)) := E_eq std p_0 k_1 m_2 w R
theorem drawsOk : drawsOk PP cfg okD (codeOf Try.f40) = true := by kernel_rfl
theorem calls (p_0 : Sl) (k_1 : Int) (m_2 : Int) {w : World} {R : Ending → World → Prop} (h : E std p_0 k_1 m_2 w R) : Calls PP F.spec_HasLongRun #[Sl.v p_0, vI k_1, vI m_2] w R :=
  calls_of noCount mixed drawOk Try.func40 rfl (c := cfg) (args := [Sl.v p_0, vI k_1, vI m_2]) rfl (Nat.le_of_ble_eq_true (by kernel_rfl)) drawsOk h
end spec_HasLongRun

namespace impl_stackPass
@[reducible] def cfg : Cfg := ⟨52, [(5, [3, 4, 6, 9, 10, 11]), (3, [3, 4, 9, 10, 11])], [(3, [3, 4, 6, 9, 10, 11]), (2, [3, 4, 6, 9, 10, 11]), (1, [3, 4, 9, 10, 11]), (0, [3, 4])], [], [2], [], [101, 107, 112, 15, 21, 124, 76, 137, 28, 115, 91, 81, 130], [138, 140, 82, 6, 86, 85, 132]⟩
def q4 (pr : Prims) (R : Ending → World → Prop) : Exit → Env → World → Prop := fun ex e w => normQ ex (fun e w => contE pr cfg (sub (codeOf Try.f68) [1, 1, 1]) (fun e w => wpC pr PP cfg (DD pr) (sub (codeOf Try.f68) [1, 1, 1]) (retQ Try.f68.results.toList R) e w) e w) (retQ Try.f68.results.toList R) e w
def q5 (pr : Prims) (R : Ending → World → Prop) : Exit → Env → World → Prop := fun ex e w => blockQ ex 0 (q4 pr R) e w
def q6 (pr : Prims) (k : Env → World → Prop) (Q : Exit → Env → World → Prop) : Exit → Env → World → Prop := fun ex e w => normQ ex (fun e w => contE pr cfg (sub (codeOf Try.f68) [1, 1, 0, 1, 0, 0, 1, 1, 1]) (fun e w => wpC pr PP cfg (DD pr) (sub (codeOf Try.f68) [1, 1, 0, 1, 0, 0, 1, 1, 1]) (fun ex e w => normQ ex (fun e' w' => k (Env.restr e' (lookN cfg.loops (keyOf (sub (codeOf Try.f68) [1, 1, 0, 1, 0, 0])))) w') Q e w) e w) e w) (fun ex e w => normQ ex (fun e' w' => k (Env.restr e' (lookN cfg.loops (keyOf (sub (codeOf Try.f68) [1, 1, 0, 1, 0, 0])))) w') Q e w) e w
def q7 (pr : Prims) (k : Env → World → Prop) (Q : Exit → Env → World → Prop) : Exit → Env → World → Prop := fun ex e w => blockQ ex 1 (q6 pr k Q) e w
def q10 (pr : Prims) (k : Env → World → Prop) (Q : Exit → Env → World → Prop) : Exit → Env → World → Prop := fun ex e w => normQ ex (fun e w => contE pr cfg (sub (codeOf Try.f68) [1, 1, 0, 1, 0, 0, 1, 1, 0, 0, 1, 1]) (fun e w => wpC pr PP cfg (DD pr) (sub (codeOf Try.f68) [1, 1, 0, 1, 0, 0, 1, 1, 0, 0, 1, 1]) (q7 pr k Q) e w) e w) (q7 pr k Q) e w
def q11 (pr : Prims) (k : Env → World → Prop) (Q : Exit → Env → World → Prop) : Exit → Env → World → Prop := fun ex e w => blockQ ex 2 (q10 pr k Q) e w
def emb3 (out_3 : Sl) (stack_4 : Sl) (t9 : Sl) (t10 : Int) (t11 : Int) : Env := [(3, Sl.v out_3), (4, Sl.v stack_4), (9, Sl.v t9), (10, vI t10), (11, vI t11)]
def emb5 (out_3 : Sl) (stack_4 : Sl) (v_6 : Int) (t9 : Sl) (t10 : Int) (t11 : Int) : Env := [(3, Sl.v out_3), (4, Sl.v stack_4), (6, vI v_6), (9, Sl.v t9), (10, vI t10), (11, vI t11)]
def x2 (out_3 : Sl) (stack_4 : Sl) (v_6 : Int) (t9 : Sl) (t10 : Int) (t11 : Int) : Env := [(3, Sl.v out_3), (4, Sl.v stack_4), (6, vI v_6), (9, Sl.v t9), (10, vI t10), (11, vI t11)]
def x0 (out_3 : Sl) (stack_4 : Sl) : Env := [(3, Sl.v out_3), (4, Sl.v stack_4)]
def S5 (pr : Prims) (Q : Exit → Env → World → Prop) : (Env → World → Prop) → Env → World → Prop := fun k e w => wpC pr PP cfg (DD pr) (sub (codeOf Try.f68) [1, 1, 0, 1, 0, 0, 1, 1, 0, 0, 1, 0, 0, 0]) (fun ex e w => normQ ex (fun e' w' => k (Env.restr e' (lookN cfg.loops (keyOf (sub (codeOf Try.f68) [1, 1, 0, 1, 0, 0, 1, 1, 0, 0, 1, 0, 0, 0])))) w') Q e w) e w
def S3 (pr : Prims) (Q : Exit → Env → World → Prop) : (Env → World → Prop) → Env → World → Prop := fun k e w => wpC pr PP cfg (DD pr) (sub (codeOf Try.f68) [1, 1, 0, 1, 0, 0]) (fun ex e w => normQ ex (fun e' w' => k (Env.restr e' (lookN cfg.loops (keyOf (sub (codeOf Try.f68) [1, 1, 0, 1, 0, 0])))) w') Q e w) e w
def B5 (pr : Prims) (out_3 : Sl) (stack_4 : Sl) (v_6 : Int) (t9 : Sl) (t10 : Int) (t11 : Int) (w : World) (k : Env → World → Prop) (Q : Exit → Env → World → Prop) : Prop :=
  S5 pr Q k (emb5 out_3 stack_4 v_6 t9 t10 t11) w
def L5 (pr : Prims) (out_3 : Sl) (stack_4 : Sl) (v_6 : Int) (t9 : Sl) (t10 : Int) (t11 : Int) (w : World) (Q : Exit → Env → World → Prop) : Prop :=
  pr.loop (S5 pr Q) (emb5 out_3 stack_4 v_6 t9 t10 t11) w
def B3 (pr : Prims) (out_3 : Sl) (stack_4 : Sl) (t9 : Sl) (t10 : Int) (t11 : Int) (w : World) (k : Env → World → Prop) (Q : Exit → Env → World → Prop) : Prop :=
  S3 pr Q k (emb3 out_3 stack_4 t9 t10 t11) w
def L3 (pr : Prims) (out_3 : Sl) (stack_4 : Sl) (t9 : Sl) (t10 : Int) (t11 : Int) (w : World) (Q : Exit → Env → World → Prop) : Prop :=
  pr.loop (S3 pr Q) (emb3 out_3 stack_4 t9 t10 t11) w
def E (pr : Prims) (p_0 : Sl) (w : World) (R : Ending → World → Prop) : Prop :=
  wpC pr PP cfg (DD pr) (codeOf Try.f68) (retQ Try.f68.results.toList R) (argE 0 [Sl.v p_0]) w
theorem B5_eq (pr : Prims) (out_3 : Sl) (stack_4 : Sl) (v_6 : Int) (t9 : Sl) (t10 : Int) (t11 : Int) (w : World) (k : Env → World → Prop) (Q : Exit → Env → World → Prop) : B5 pr out_3 stack_4 v_6 t9 t10 t11 w k Q = (
  bif decide ((stack_4.n : Int) > 0) then (
  pr.idxK 1 stack_4 (w64 ((stack_4.n : Int) - 1)) fun (a12 : Addr) =>
  pr.load1 (.int .i64) a12 w fun (ξ13 : Int) =>
  bif decide (ξ13 < v_6) then (
  pr.drewAll w fun ω14 =>
  pr.idxK 1 stack_4 (w64 ((stack_4.n : Int) - 1)) fun (a15 : Addr) =>
  pr.cutK 1 stack_4 none (some (w64 ((stack_4.n : Int) - 1))) fun (s16 : Sl) =>
  pr.load1 (.int .i64) a15 ω14 fun (ξ17 : Int) =>
  pr.sem1 .sl PP (Instr.buildSlice T_Sint 1 #[(0, vI ξ17)]) ω14 fun (ρ18 : Sl) ω19 =>
  pr.sem1 .sl PP (Builtin.append_ #[T_Sint, T_Sint] T_Sint #[Sl.v out_3, Sl.v ρ18]) ω19 fun (ρ20 : Sl) ω21 =>
  k (emb5 ρ20 s16 v_6 t9 t10 t11) ω21)
  else (
  Q (.exit 2) (x2 out_3 stack_4 v_6 t9 t10 t11) w))
  else (
  Q (.exit 2) (x2 out_3 stack_4 v_6 t9 t10 t11) w)) := by kernel_rfl
theorem B5_s (out_3 : Sl) (stack_4 : Sl) (v_6 : Int) (t9 : Sl) (t10 : Int) (t11 : Int) (w : World) (k : Env → World → Prop) (Q : Exit → Env → World → Prop) : B5 std out_3 stack_4 v_6 t9 t10 t11 w k Q = (
  bif decide ((stack_4.n : Int) > 0) then (
  idxK 1 stack_4 (w64 ((stack_4.n : Int) - 1)) fun (a12 : Addr) =>
  load1 (.int .i64) a12 w fun (ξ13 : Int) =>
  bif decide (ξ13 < v_6) then (
  drewAll w fun ω14 =>
  idxK 1 stack_4 (w64 ((stack_4.n : Int) - 1)) fun (a15 : Addr) =>
  cutK 1 stack_4 none (some (w64 ((stack_4.n : Int) - 1))) fun (s16 : Sl) =>
  load1 (.int .i64) a15 ω14 fun (ξ17 : Int) =>
  sem1 .sl PP (Instr.buildSlice T_Sint 1 #[(0, vI ξ17)]) ω14 fun (ρ18 : Sl) ω19 =>
  sem1 .sl PP (Builtin.append_ #[T_Sint, T_Sint] T_Sint #[Sl.v out_3, Sl.v ρ18]) ω19 fun (ρ20 : Sl) ω21 =>
  k (emb5 ρ20 s16 v_6 t9 t10 t11) ω21)
  else (
  Q (.exit 2) (x2 out_3 stack_4 v_6 t9 t10 t11) w))
  else (
  Q (.exit 2) (x2 out_3 stack_4 v_6 t9 t10 t11) w)) := B5_eq std out_3 stack_4 v_6 t9 t10 t11 w k Q
theorem L5_rule (out_3 : Sl) (stack_4 : Sl) (v_6 : Int) (t9 : Sl) (t10 : Int) (t11 : Int) (w : World) (Q : Exit → Env → World → Prop) (I : Sl → Sl → World → Prop) (μ : Sl → Sl → World → Nat) (h0 : I out_3 stack_4 w)
    (h : ∀ (out_3 : Sl) (stack_4 : Sl) (w' : World), I out_3 stack_4 w' → B5 std out_3 stack_4 v_6 t9 t10 t11 w' (fun e2 w2 => ∃ out_3_n stack_4_n, e2 = emb5 out_3_n stack_4_n v_6 t9 t10 t11 ∧ I out_3_n stack_4_n w2 ∧ μ out_3_n stack_4_n w2 < μ out_3 stack_4 w') Q) :
    L5 std out_3 stack_4 v_6 t9 t10 t11 w Q := by
  unfold L5
  refine LoopE.intro (σ := Sl × Sl) (step := S5 std Q) (fun s => emb5 s.1 s.2 v_6 t9 t10 t11) (fun s w => I s.1 s.2 w) (fun s w => μ s.1 s.2 w) (out_3, stack_4) rfl h0 ?_
  intro s w' hI
  have h1 := h s.1 s.2 w' hI
  unfold B5 at h1
  simp only [Prod.exists]
  exact h1
theorem A5_2_eq (pr : Prims) (out_3 : Sl) (stack_4 : Sl) (v_6 : Int) (t9 : Sl) (t10 : Int) (t11 : Int) (w : World) (k : Env → World → Prop) (Q : Exit → Env → World → Prop) : (q11 pr k Q) (.exit 2) (x2 out_3 stack_4 v_6 t9 t10 t11) w = (
  pr.sem1 .sl PP (Instr.buildSlice T_Sint 1 #[(0, vI v_6)]) w fun (ρ22 : Sl) ω23 =>
  pr.sem1 .sl PP (Builtin.append_ #[T_Sint, T_Sint] T_Sint #[Sl.v stack_4, Sl.v ρ22]) ω23 fun (ρ24 : Sl) ω25 =>
  k (emb3 out_3 ρ24 t9 t10 (w64 (t11 + 1))) ω25) := by kernel_rfl
theorem A5_2_s (out_3 : Sl) (stack_4 : Sl) (v_6 : Int) (t9 : Sl) (t10 : Int) (t11 : Int) (w : World) (k : Env → World → Prop) (Q : Exit → Env → World → Prop) : (q11 std k Q) (.exit 2) (x2 out_3 stack_4 v_6 t9 t10 t11) w = (
  sem1 .sl PP (Instr.buildSlice T_Sint 1 #[(0, vI v_6)]) w fun (ρ22 : Sl) ω23 =>
  sem1 .sl PP (Builtin.append_ #[T_Sint, T_Sint] T_Sint #[Sl.v stack_4, Sl.v ρ22]) ω23 fun (ρ24 : Sl) ω25 =>
  k (emb3 out_3 ρ24 t9 t10 (w64 (t11 + 1))) ω25) := A5_2_eq std out_3 stack_4 v_6 t9 t10 t11 w k Q
theorem B3_eq (pr : Prims) (out_3 : Sl) (stack_4 : Sl) (t9 : Sl) (t10 : Int) (t11 : Int) (w : World) (k : Env → World → Prop) (Q : Exit → Env → World → Prop) : B3 pr out_3 stack_4 t9 t10 t11 w k Q = (
  bif decide (t11 < t10) then (
  pr.idxK 1 t9 t11 fun (a8 : Addr) =>
  pr.load1 (.int .i64) a8 w fun (ξ9 : Int) =>
  L5 pr out_3 stack_4 ξ9 t9 t10 t11 w (q11 pr k Q))
  else (
  Q (.exit 0) (x0 out_3 stack_4) w)) := by kernel_rfl
theorem B3_s (out_3 : Sl) (stack_4 : Sl) (t9 : Sl) (t10 : Int) (t11 : Int) (w : World) (k : Env → World → Prop) (Q : Exit → Env → World → Prop) : B3 std out_3 stack_4 t9 t10 t11 w k Q = (
  bif decide (t11 < t10) then (
  idxK 1 t9 t11 fun (a8 : Addr) =>
  load1 (.int .i64) a8 w fun (ξ9 : Int) =>
  L5 std out_3 stack_4 ξ9 t9 t10 t11 w (q11 std k Q))
  else (
  Q (.exit 0) (x0 out_3 stack_4) w)) := B3_eq std out_3 stack_4 t9 t10 t11 w k Q
theorem L3_rule (out_3 : Sl) (stack_4 : Sl) (t9 : Sl) (t10 : Int) (t11 : Int) (w : World) (Q : Exit → Env → World → Prop) (I : Sl → Sl → Int → World → Prop) (μ : Sl → Sl → Int → World → Nat) (h0 : I out_3 stack_4 t11 w)
    (h : ∀ (out_3 : Sl) (stack_4 : Sl) (t11 : Int) (w' : World), I out_3 stack_4 t11 w' → B3 std out_3 stack_4 t9 t10 t11 w' (fun e2 w2 => ∃ out_3_n stack_4_n t11_n, e2 = emb3 out_3_n stack_4_n t9 t10 t11_n ∧ I out_3_n stack_4_n t11_n w2 ∧ μ out_3_n stack_4_n t11_n w2 < μ out_3 stack_4 t11 w') Q) :
    L3 std out_3 stack_4 t9 t10 t11 w Q := by
  unfold L3
  refine LoopE.intro (σ := Sl × Sl × Int) (step := S3 std Q) (fun s => emb3 s.1 s.2.1 t9 t10 s.2.2) (fun s w => I s.1 s.2.1 s.2.2 w) (fun s w => μ s.1 s.2.1 s.2.2 w) (out_3, stack_4, t11) rfl h0 ?_
  intro s w' hI
  have h1 := h s.1 s.2.1 s.2.2 w' hI
  unfold B3 at h1
  simp only [Prod.exists]
  exact h1
theorem A3_0_eq (pr : Prims) (out_3 : Sl) (stack_4 : Sl) (w : World) (R : Ending → World → Prop) : (q5 pr R) (.exit 0) (x0 out_3 stack_4) w = (
  pr.call0  PP F.slices_Reverse___int_int_ #[Sl.v stack_4] w fun ω26 =>
  pr.sem1 .sl PP (Builtin.append_ #[T_Sint, T_Sint] T_Sint #[Sl.v out_3, Sl.v stack_4]) ω26 fun (ρ27 : Sl) ω28 =>
  R (.returned (Sl.v ρ27)) ω28) := by kernel_rfl
theorem A3_0_s (out_3 : Sl) (stack_4 : Sl) (w : World) (R : Ending → World → Prop) : (q5 std R) (.exit 0) (x0 out_3 stack_4) w = (
  call0  PP F.slices_Reverse___int_int_ #[Sl.v stack_4] w fun ω26 =>
  sem1 .sl PP (Builtin.append_ #[T_Sint, T_Sint] T_Sint #[Sl.v out_3, Sl.v stack_4]) ω26 fun (ρ27 : Sl) ω28 =>
  R (.returned (Sl.v ρ27)) ω28) := A3_0_eq std out_3 stack_4 w R
theorem E_eq (pr : Prims) (p_0 : Sl) (w : World) (R : Ending → World → Prop) : E pr p_0 w R = (
  pr.sem1 .sl PP (Instr.buildSlice T_Sint 0 #[]) w fun (ρ0 : Sl) ω1 =>
  pr.sem1 .sl PP (Instr.buildSlice T_Sint 0 #[]) ω1 fun (ρ2 : Sl) ω3 =>
  L3 pr ρ0 ρ2 p_0 (p_0.n : Int) 0 ω3 (q5 pr R)) := by kernel_rfl
theorem E_s (p_0 : Sl) (w : World) (R : Ending → World → Prop) : E std p_0 w R = (
  sem1 .sl PP (Instr.buildSlice T_Sint 0 #[]) w fun (ρ0 : Sl) ω1 =>
  sem1 .sl PP (Instr.buildSlice T_Sint 0 #[]) ω1 fun (ρ2 : Sl) ω3 =>
  L3 std ρ0 ρ2 p_0 (p_0.n : Int) 0 ω3 (q5 std R)) := E_eq std p_0 w R
theorem drawsOk : drawsOk PP cfg okD (codeOf Try.f68) = true := by kernel_rfl
theorem calls (p_0 : Sl) {w : World} {R : Ending → World → Prop} (h : E std p_0 w R) : Calls PP F.impl_stackPass #[Sl.v p_0] w R :=
  calls_of noCount mixed drawOk Try.func68 rfl (c := cfg) (args := [Sl.v p_0]) rfl (Nat.le_of_ble_eq_true (by kernel_rfl)) drawsOk h
end impl_stackPass

namespace impl_StackPass
@[reducible] def cfg : Cfg := ⟨8, [], [], [], [2], [], [101, 107, 112, 15, 21, 124, 76, 137, 28, 115, 91, 81, 130], [138, 140, 82, 6, 86, 85, 132]⟩
def E (pr : Prims) (p_0 : Sl) (w : World) (R : Ending → World → Prop) : Prop :=
  wpC pr PP cfg (DD pr) (codeOf Try.f8) (retQ Try.f8.results.toList R) (argE 0 [Sl.v p_0]) w
theorem E_eq (pr : Prims) (p_0 : Sl) (w : World) (R : Ending → World → Prop) : E pr p_0 w R = (
  pr.call1 .bool PP F.impl_IsPerm #[Sl.v p_0] w fun (ρ0 : Bool) ω1 =>
  bif !ρ0 then (
  R (.returned (Sl.v Sl.nil)) ω1)
  else (
  pr.call1 .sl PP F.impl_stackPass #[Sl.v p_0] ω1 fun (ρ2 : Sl) ω3 =>
  R (.returned (Sl.v ρ2)) ω3)) := by kernel_rfl
theorem E_s (p_0 : Sl) (w : World) (R : Ending → World → Prop) : E std p_0 w R = (
  call1 .bool PP F.impl_IsPerm #[Sl.v p_0] w fun (ρ0 : Bool) ω1 =>
  bif !ρ0 then (
  R (.returned (Sl.v Sl.nil)) ω1)
  else (
  call1 .sl PP F.impl_stackPass #[Sl.v p_0] ω1 fun (ρ2 : Sl) ω3 =>
  R (.returned (Sl.v ρ2)) ω3)) := E_eq std p_0 w R
theorem drawsOk : drawsOk PP cfg okD (codeOf Try.f8) = true := by kernel_rfl
theorem calls (p_0 : Sl) {w : World} {R : Ending → World → Prop} (h : E std p_0 w R) : Calls PP F.impl_StackPass #[Sl.v p_0] w R :=
  calls_of noCount mixed drawOk Try.func8 rfl (c := cfg) (args := [Sl.v p_0]) rfl (Nat.le_of_ble_eq_true (by kernel_rfl)) drawsOk h
end impl_StackPass

namespace impl_IsStackSorted
@[reducible] def cfg : Cfg := ⟨10, [], [], [], [2], [], [101, 107, 112, 15, 21, 124, 76, 137, 28, 115, 91, 81, 130], [138, 140, 82, 6, 86, 85, 132]⟩
def E (pr : Prims) (p_0 : Sl) (w : World) (R : Ending → World → Prop) : Prop :=
  wpC pr PP cfg (DD pr) (codeOf Try.f17) (retQ Try.f17.results.toList R) (argE 0 [Sl.v p_0]) w
theorem E_eq (pr : Prims) (p_0 : Sl) (w : World) (R : Ending → World → Prop) : E pr p_0 w R = (
  pr.call1 .bool PP F.impl_IsPerm #[Sl.v p_0] w fun (ρ0 : Bool) ω1 =>
  bif ρ0 then (
  pr.call1 .sl PP F.impl_stackPass #[Sl.v p_0] ω1 fun (ρ2 : Sl) ω3 =>
  pr.call1 .bool PP F.impl_isRising #[Sl.v ρ2] ω3 fun (ρ4 : Bool) ω5 =>
  R (.returned (.bool ρ4)) ω5)
  else (
  R (.returned (.bool false)) ω1)) := by kernel_rfl
theorem E_s (p_0 : Sl) (w : World) (R : Ending → World → Prop) : E std p_0 w R = (
  call1 .bool PP F.impl_IsPerm #[Sl.v p_0] w fun (ρ0 : Bool) ω1 =>
  bif ρ0 then (
  call1 .sl PP F.impl_stackPass #[Sl.v p_0] ω1 fun (ρ2 : Sl) ω3 =>
  call1 .bool PP F.impl_isRising #[Sl.v ρ2] ω3 fun (ρ4 : Bool) ω5 =>
  R (.returned (.bool ρ4)) ω5)
  else (
  R (.returned (.bool false)) ω1)) := E_eq std p_0 w R
theorem drawsOk : drawsOk PP cfg okD (codeOf Try.f17) = true := by kernel_rfl
theorem calls (p_0 : Sl) {w : World} {R : Ending → World → Prop} (h : E std p_0 w R) : Calls PP F.impl_IsStackSorted #[Sl.v p_0] w R :=
  calls_of noCount mixed drawOk Try.func17 rfl (c := cfg) (args := [Sl.v p_0]) rfl (Nat.le_of_ble_eq_true (by kernel_rfl)) drawsOk h
end impl_IsStackSorted

namespace impl_timesOf
@[reducible] def cfg : Cfg := ⟨15, [(2, [0, 1, 5])], [(1, [0, 1, 5]), (0, [5])], [], [4], [], [101, 107, 112, 15, 21, 124, 76, 137, 28, 115, 91, 81, 130], [138, 140, 82, 6, 86, 85, 132]⟩
def q0 (pr : Prims) (R : Ending → World → Prop) : Exit → Env → World → Prop := fun ex e w => normQ ex (fun e w => contE pr cfg (sub (codeOf Try.f79) [1, 1, 1]) (fun e w => wpC pr PP cfg (DD pr) (sub (codeOf Try.f79) [1, 1, 1]) (retQ Try.f79.results.toList R) e w) e w) (retQ Try.f79.results.toList R) e w
def q1 (pr : Prims) (R : Ending → World → Prop) : Exit → Env → World → Prop := fun ex e w => blockQ ex 0 (q0 pr R) e w
def emb2 (p_0 : Sl) (pass_1 : Value) (many_5 : Int) : Env := [(0, Sl.v p_0), (1, pass_1), (5, vI many_5)]
def x0 (many_5 : Int) : Env := [(5, vI many_5)]
def S2 (pr : Prims) (Q : Exit → Env → World → Prop) : (Env → World → Prop) → Env → World → Prop := fun k e w => wpC pr PP cfg (DD pr) (sub (codeOf Try.f79) [1, 1, 0, 0, 0]) (fun ex e w => normQ ex (fun e' w' => k (Env.restr e' (lookN cfg.loops (keyOf (sub (codeOf Try.f79) [1, 1, 0, 0, 0])))) w') Q e w) e w
def B2 (pr : Prims) (p_0 : Sl) (pass_1 : Value) (many_5 : Int) (w : World) (k : Env → World → Prop) (Q : Exit → Env → World → Prop) : Prop :=
  S2 pr Q k (emb2 p_0 pass_1 many_5) w
def L2 (pr : Prims) (p_0 : Sl) (pass_1 : Value) (many_5 : Int) (w : World) (Q : Exit → Env → World → Prop) : Prop :=
  pr.loop (S2 pr Q) (emb2 p_0 pass_1 many_5) w
def E (pr : Prims) (p_0 : Sl) (pass_1 : Value) (w : World) (R : Ending → World → Prop) : Prop :=
  wpC pr PP cfg (DD pr) (codeOf Try.f79) (retQ Try.f79.results.toList R) (argE 0 [Sl.v p_0, pass_1]) w
theorem B2_eq (pr : Prims) (p_0 : Sl) (pass_1 : Value) (many_5 : Int) (w : World) (k : Env → World → Prop) (Q : Exit → Env → World → Prop) : B2 pr p_0 pass_1 many_5 w k Q = (
  pr.call1 .bool PP F.impl_isRising #[Sl.v p_0] w fun (ρ2 : Bool) ω3 =>
  bif !ρ2 then (
  pr.callV1 .sl PP (pass_1) [Sl.v p_0] ω3 fun (ρ4 : Sl) ω5 =>
  k (emb2 ρ4 pass_1 (w64 (many_5 + 1))) ω5)
  else (
  Q (.exit 0) (x0 many_5) ω3)) := by kernel_rfl
theorem B2_s (p_0 : Sl) (pass_1 : Value) (many_5 : Int) (w : World) (k : Env → World → Prop) (Q : Exit → Env → World → Prop) : B2 std p_0 pass_1 many_5 w k Q = (
  call1 .bool PP F.impl_isRising #[Sl.v p_0] w fun (ρ2 : Bool) ω3 =>
  bif !ρ2 then (
  callV1 .sl PP (pass_1) [Sl.v p_0] ω3 fun (ρ4 : Sl) ω5 =>
  k (emb2 ρ4 pass_1 (w64 (many_5 + 1))) ω5)
  else (
  Q (.exit 0) (x0 many_5) ω3)) := B2_eq std p_0 pass_1 many_5 w k Q
theorem L2_rule (p_0 : Sl) (pass_1 : Value) (many_5 : Int) (w : World) (Q : Exit → Env → World → Prop) (I : Sl → Int → World → Prop) (μ : Sl → Int → World → Nat) (h0 : I p_0 many_5 w)
    (h : ∀ (p_0 : Sl) (many_5 : Int) (w' : World), I p_0 many_5 w' → B2 std p_0 pass_1 many_5 w' (fun e2 w2 => ∃ p_0_n many_5_n, e2 = emb2 p_0_n pass_1 many_5_n ∧ I p_0_n many_5_n w2 ∧ μ p_0_n many_5_n w2 < μ p_0 many_5 w') Q) :
    L2 std p_0 pass_1 many_5 w Q := by
  unfold L2
  refine LoopE.intro (σ := Sl × Int) (step := S2 std Q) (fun s => emb2 s.1 pass_1 s.2) (fun s w => I s.1 s.2 w) (fun s w => μ s.1 s.2 w) (p_0, many_5) rfl h0 ?_
  intro s w' hI
  have h1 := h s.1 s.2 w' hI
  unfold B2 at h1
  simp only [Prod.exists]
  exact h1
theorem A2_0_eq (pr : Prims) (many_5 : Int) (w : World) (R : Ending → World → Prop) : (q1 pr R) (.exit 0) (x0 many_5) w = (
  R (.returned (vI many_5)) w) := by kernel_rfl
theorem A2_0_s (many_5 : Int) (w : World) (R : Ending → World → Prop) : (q1 std R) (.exit 0) (x0 many_5) w = (
  R (.returned (vI many_5)) w) := A2_0_eq std many_5 w R
theorem E_eq (pr : Prims) (p_0 : Sl) (pass_1 : Value) (w : World) (R : Ending → World → Prop) : E pr p_0 pass_1 w R = (
  L2 pr p_0 pass_1 0 w (q1 pr R)) := by kernel_rfl
theorem E_s (p_0 : Sl) (pass_1 : Value) (w : World) (R : Ending → World → Prop) : E std p_0 pass_1 w R = (
  L2 std p_0 pass_1 0 w (q1 std R)) := E_eq std p_0 pass_1 w R
theorem drawsOk : drawsOk PP cfg okD (codeOf Try.f79) = true := by kernel_rfl
theorem calls (p_0 : Sl) (pass_1 : Value) {w : World} {R : Ending → World → Prop} (h : E std p_0 pass_1 w R) : Calls PP F.impl_timesOf #[Sl.v p_0, pass_1] w R :=
  calls_of noCount mixed drawOk Try.func79 rfl (c := cfg) (args := [Sl.v p_0, pass_1]) rfl (Nat.le_of_ble_eq_true (by kernel_rfl)) drawsOk h
end impl_timesOf

namespace impl_StackTimes
@[reducible] def cfg : Cfg := ⟨8, [], [], [], [2], [], [101, 107, 112, 15, 21, 124, 76, 137, 28, 115, 91, 81, 130], [138, 140, 82, 6, 86, 85, 132]⟩
def E (pr : Prims) (p_0 : Sl) (w : World) (R : Ending → World → Prop) : Prop :=
  wpC pr PP cfg (DD pr) (codeOf Try.f19) (retQ Try.f19.results.toList R) (argE 0 [Sl.v p_0]) w
theorem E_eq (pr : Prims) (p_0 : Sl) (w : World) (R : Ending → World → Prop) : E pr p_0 w R = (
  pr.call1 .bool PP F.impl_IsPerm #[Sl.v p_0] w fun (ρ0 : Bool) ω1 =>
  bif !ρ0 then (
  R (.returned (vI (-1))) ω1)
  else (
  pr.call1 (.int .i64) PP F.impl_timesOf #[Sl.v p_0, .func (.func F.impl_stackPass) #[] #[]] ω1 fun (ρ2 : Int) ω3 =>
  R (.returned (vI ρ2)) ω3)) := by kernel_rfl
theorem E_s (p_0 : Sl) (w : World) (R : Ending → World → Prop) : E std p_0 w R = (
  call1 .bool PP F.impl_IsPerm #[Sl.v p_0] w fun (ρ0 : Bool) ω1 =>
  bif !ρ0 then (
  R (.returned (vI (-1))) ω1)
  else (
  call1 (.int .i64) PP F.impl_timesOf #[Sl.v p_0, .func (.func F.impl_stackPass) #[] #[]] ω1 fun (ρ2 : Int) ω3 =>
  R (.returned (vI ρ2)) ω3)) := E_eq std p_0 w R
theorem drawsOk : drawsOk PP cfg okD (codeOf Try.f19) = true := by kernel_rfl
theorem calls (p_0 : Sl) {w : World} {R : Ending → World → Prop} (h : E std p_0 w R) : Calls PP F.impl_StackTimes #[Sl.v p_0] w R :=
  calls_of noCount mixed drawOk Try.func19 rfl (c := cfg) (args := [Sl.v p_0]) rfl (Nat.le_of_ble_eq_true (by kernel_rfl)) drawsOk h
end impl_StackTimes

namespace spec_l21Pass
@[reducible] def cfg : Cfg := ⟨55, [(6, [0, 3, 4, 5]), (4, [0, 3, 4, 5])], [(3, [0, 3, 4, 5]), (2, [0, 3, 4, 5]), (1, [0, 3, 4, 5]), (0, [3, 4])], [], [2], [6], [101, 107, 112, 15, 21, 124, 76, 137, 28, 115, 91, 81, 130], [138, 140, 82, 6, 86, 85, 132]⟩
def q4 (pr : Prims) (R : Ending → World → Prop) : Exit → Env → World → Prop := fun ex e w => normQ ex (fun e w => contE pr cfg (sub (codeOf Try.f74) [1, 1, 1, 1]) (fun e w => wpC pr PP cfg (DD pr) (sub (codeOf Try.f74) [1, 1, 1, 1]) (retQ Try.f74.results.toList R) e w) e w) (retQ Try.f74.results.toList R) e w
def q5 (pr : Prims) (R : Ending → World → Prop) : Exit → Env → World → Prop := fun ex e w => blockQ ex 0 (q4 pr R) e w
def q6 (pr : Prims) (k : Env → World → Prop) (Q : Exit → Env → World → Prop) : Exit → Env → World → Prop := fun ex e w => normQ ex (fun e w => contE pr cfg (sub (codeOf Try.f74) [1, 1, 1, 0, 1, 0, 0, 1, 1]) (fun e w => wpC pr PP cfg (DD pr) (sub (codeOf Try.f74) [1, 1, 1, 0, 1, 0, 0, 1, 1]) (fun ex e w => normQ ex (fun e' w' => k (Env.restr e' (lookN cfg.loops (keyOf (sub (codeOf Try.f74) [1, 1, 1, 0, 1, 0, 0])))) w') Q e w) e w) e w) (fun ex e w => normQ ex (fun e' w' => k (Env.restr e' (lookN cfg.loops (keyOf (sub (codeOf Try.f74) [1, 1, 1, 0, 1, 0, 0])))) w') Q e w) e w
def q7 (pr : Prims) (k : Env → World → Prop) (Q : Exit → Env → World → Prop) : Exit → Env → World → Prop := fun ex e w => blockQ ex 1 (q6 pr k Q) e w
def q8 (pr : Prims) (k : Env → World → Prop) (Q : Exit → Env → World → Prop) : Exit → Env → World → Prop := fun ex e w => normQ ex (fun e w => contE pr cfg (sub (codeOf Try.f74) [1, 1, 1, 0, 1, 0, 0, 1, 0, 0, 1]) (fun e w => wpC pr PP cfg (DD pr) (sub (codeOf Try.f74) [1, 1, 1, 0, 1, 0, 0, 1, 0, 0, 1]) (q7 pr k Q) e w) e w) (q7 pr k Q) e w
def q9 (pr : Prims) (k : Env → World → Prop) (Q : Exit → Env → World → Prop) : Exit → Env → World → Prop := fun ex e w => blockQ ex 2 (q8 pr k Q) e w
def emb4 (p_0 : Sl) (out_3 : Sl) (stack_4 : Sl) (k_5 : Int) : Env := [(0, Sl.v p_0), (3, Sl.v out_3), (4, Sl.v stack_4), (5, vI k_5)]
def emb6 (p_0 : Sl) (out_3 : Sl) (stack_4 : Sl) (k_5 : Int) : Env := [(0, Sl.v p_0), (3, Sl.v out_3), (4, Sl.v stack_4), (5, vI k_5)]
def x2 (p_0 : Sl) (out_3 : Sl) (stack_4 : Sl) (k_5 : Int) : Env := [(0, Sl.v p_0), (3, Sl.v out_3), (4, Sl.v stack_4), (5, vI k_5)]
def x0 (out_3 : Sl) (stack_4 : Sl) : Env := [(3, Sl.v out_3), (4, Sl.v stack_4)]
def S6 (pr : Prims) (Q : Exit → Env → World → Prop) : (Env → World → Prop) → Env → World → Prop := fun k e w => wpC pr PP cfg (DD pr) (sub (codeOf Try.f74) [1, 1, 1, 0, 1, 0, 0, 1, 0, 0, 0, 0, 0]) (fun ex e w => normQ ex (fun e' w' => k (Env.restr e' (lookN cfg.loops (keyOf (sub (codeOf Try.f74) [1, 1, 1, 0, 1, 0, 0, 1, 0, 0, 0, 0, 0])))) w') Q e w) e w
def S4 (pr : Prims) (Q : Exit → Env → World → Prop) : (Env → World → Prop) → Env → World → Prop := fun k e w => wpC pr PP cfg (DD pr) (sub (codeOf Try.f74) [1, 1, 1, 0, 1, 0, 0]) (fun ex e w => normQ ex (fun e' w' => k (Env.restr e' (lookN cfg.loops (keyOf (sub (codeOf Try.f74) [1, 1, 1, 0, 1, 0, 0])))) w') Q e w) e w
def B6 (pr : Prims) (p_0 : Sl) (out_3 : Sl) (stack_4 : Sl) (k_5 : Int) (w : World) (k : Env → World → Prop) (Q : Exit → Env → World → Prop) : Prop :=
  S6 pr Q k (emb6 p_0 out_3 stack_4 k_5) w
def L6 (pr : Prims) (p_0 : Sl) (out_3 : Sl) (stack_4 : Sl) (k_5 : Int) (w : World) (Q : Exit → Env → World → Prop) : Prop :=
  pr.loop (S6 pr Q) (emb6 p_0 out_3 stack_4 k_5) w
def B4 (pr : Prims) (p_0 : Sl) (out_3 : Sl) (stack_4 : Sl) (k_5 : Int) (w : World) (k : Env → World → Prop) (Q : Exit → Env → World → Prop) : Prop :=
  S4 pr Q k (emb4 p_0 out_3 stack_4 k_5) w
def L4 (pr : Prims) (p_0 : Sl) (out_3 : Sl) (stack_4 : Sl) (k_5 : Int) (w : World) (Q : Exit → Env → World → Prop) : Prop :=
  pr.loop (S4 pr Q) (emb4 p_0 out_3 stack_4 k_5) w
def E (pr : Prims) (p_0 : Sl) (w : World) (R : Ending → World → Prop) : Prop :=
  wpC pr PP cfg (DD pr) (codeOf Try.f74) (retQ Try.f74.results.toList R) (argE 0 [Sl.v p_0]) w
theorem B6_eq (pr : Prims) (p_0 : Sl) (out_3 : Sl) (stack_4 : Sl) (k_5 : Int) (w : World) (k : Env → World → Prop) (Q : Exit → Env → World → Prop) : B6 pr p_0 out_3 stack_4 k_5 w k Q = (
  bif decide ((stack_4.n : Int) > 0) then (
  pr.idxK 1 stack_4 (w64 ((stack_4.n : Int) - 1)) fun (a10 : Addr) =>
  pr.load1 (.int .i64) a10 w fun (ξ11 : Int) =>
  pr.idxK 1 p_0 k_5 fun (a12 : Addr) =>
  pr.load1 (.int .i64) a12 w fun (ξ13 : Int) =>
  pr.drewAll w fun ω14 =>
  bif decide (ξ11 < ξ13) then (
  pr.idxK 1 stack_4 (w64 ((stack_4.n : Int) - 1)) fun (a15 : Addr) =>
  pr.load1 (.int .i64) a15 ω14 fun (ξ16 : Int) =>
  pr.sem1 .sl PP (Instr.buildSlice T_Sint 1 #[(0, vI ξ16)]) ω14 fun (ρ17 : Sl) ω18 =>
  pr.sem1 .sl PP (Builtin.append_ #[T_Sint, T_Sint] T_Sint #[Sl.v out_3, Sl.v ρ17]) ω18 fun (ρ19 : Sl) ω20 =>
  pr.cutK 1 stack_4 none (some (w64 ((stack_4.n : Int) - 1))) fun (s21 : Sl) =>
  k (emb6 p_0 ρ19 s21 k_5) ω20)
  else (
  Q (.exit 2) (x2 p_0 out_3 stack_4 k_5) ω14))
  else (
  pr.drewAll w fun ω22 =>
  Q (.exit 2) (x2 p_0 out_3 stack_4 k_5) ω22)) := by kernel_rfl
theorem B6_s (p_0 : Sl) (out_3 : Sl) (stack_4 : Sl) (k_5 : Int) (w : World) (k : Env → World → Prop) (Q : Exit → Env → World → Prop) : B6 std p_0 out_3 stack_4 k_5 w k Q = (
  bif decide ((stack_4.n : Int) > 0) then (
  idxK 1 stack_4 (w64 ((stack_4.n : Int) - 1)) fun (a10 : Addr) =>
  load1 (.int .i64) a10 w fun (ξ11 : Int) =>
  idxK 1 p_0 k_5 fun (a12 : Addr) =>
  load1 (.int .i64) a12 w fun (ξ13 : Int) =>
  drewAll w fun ω14 =>
  bif decide (ξ11 < ξ13) then (
  idxK 1 stack_4 (w64 ((stack_4.n : Int) - 1)) fun (a15 : Addr) =>
  load1 (.int .i64) a15 ω14 fun (ξ16 : Int) =>
  sem1 .sl PP (Instr.buildSlice T_Sint 1 #[(0, vI ξ16)]) ω14 fun (ρ17 : Sl) ω18 =>
  sem1 .sl PP (Builtin.append_ #[T_Sint, T_Sint] T_Sint #[Sl.v out_3, Sl.v ρ17]) ω18 fun (ρ19 : Sl) ω20 =>
  cutK 1 stack_4 none (some (w64 ((stack_4.n : Int) - 1))) fun (s21 : Sl) =>
  k (emb6 p_0 ρ19 s21 k_5) ω20)
  else (
  Q (.exit 2) (x2 p_0 out_3 stack_4 k_5) ω14))
  else (
  drewAll w fun ω22 =>
  Q (.exit 2) (x2 p_0 out_3 stack_4 k_5) ω22)) := B6_eq std p_0 out_3 stack_4 k_5 w k Q
theorem L6_rule (p_0 : Sl) (out_3 : Sl) (stack_4 : Sl) (k_5 : Int) (w : World) (Q : Exit → Env → World → Prop) (I : Sl → Sl → World → Prop) (μ : Sl → Sl → World → Nat) (h0 : I out_3 stack_4 w)
    (h : ∀ (out_3 : Sl) (stack_4 : Sl) (w' : World), I out_3 stack_4 w' → B6 std p_0 out_3 stack_4 k_5 w' (fun e2 w2 => ∃ out_3_n stack_4_n, e2 = emb6 p_0 out_3_n stack_4_n k_5 ∧ I out_3_n stack_4_n w2 ∧ μ out_3_n stack_4_n w2 < μ out_3 stack_4 w') Q) :
    L6 std p_0 out_3 stack_4 k_5 w Q := by
  unfold L6
  refine LoopE.intro (σ := Sl × Sl) (step := S6 std Q) (fun s => emb6 p_0 s.1 s.2 k_5) (fun s w => I s.1 s.2 w) (fun s w => μ s.1 s.2 w) (out_3, stack_4) rfl h0 ?_
  intro s w' hI
  have h1 := h s.1 s.2 w' hI
  unfold B6 at h1
  simp only [Prod.exists]
  exact h1
theorem A6_2_eq (pr : Prims) (p_0 : Sl) (out_3 : Sl) (stack_4 : Sl) (k_5 : Int) (w : World) (k : Env → World → Prop) (Q : Exit → Env → World → Prop) : (q9 pr k Q) (.exit 2) (x2 p_0 out_3 stack_4 k_5) w = (
  pr.idxK 1 p_0 k_5 fun (a23 : Addr) =>
  pr.load1 (.int .i64) a23 w fun (ξ24 : Int) =>
  pr.sem1 .sl PP (Instr.buildSlice T_Sint 1 #[(0, vI ξ24)]) w fun (ρ25 : Sl) ω26 =>
  pr.sem1 .sl PP (Builtin.append_ #[T_Sint, T_Sint] T_Sint #[Sl.v stack_4, Sl.v ρ25]) ω26 fun (ρ27 : Sl) ω28 =>
  k (emb4 p_0 out_3 ρ27 (w64 (k_5 + 1))) ω28) := by kernel_rfl
theorem A6_2_s (p_0 : Sl) (out_3 : Sl) (stack_4 : Sl) (k_5 : Int) (w : World) (k : Env → World → Prop) (Q : Exit → Env → World → Prop) : (q9 std k Q) (.exit 2) (x2 p_0 out_3 stack_4 k_5) w = (
  idxK 1 p_0 k_5 fun (a23 : Addr) =>
  load1 (.int .i64) a23 w fun (ξ24 : Int) =>
  sem1 .sl PP (Instr.buildSlice T_Sint 1 #[(0, vI ξ24)]) w fun (ρ25 : Sl) ω26 =>
  sem1 .sl PP (Builtin.append_ #[T_Sint, T_Sint] T_Sint #[Sl.v stack_4, Sl.v ρ25]) ω26 fun (ρ27 : Sl) ω28 =>
  k (emb4 p_0 out_3 ρ27 (w64 (k_5 + 1))) ω28) := A6_2_eq std p_0 out_3 stack_4 k_5 w k Q
theorem B4_eq (pr : Prims) (p_0 : Sl) (out_3 : Sl) (stack_4 : Sl) (k_5 : Int) (w : World) (k : Env → World → Prop) (Q : Exit → Env → World → Prop) : B4 pr p_0 out_3 stack_4 k_5 w k Q = (
  bif decide (k_5 < (p_0.n : Int)) then (
  L6 pr p_0 out_3 stack_4 k_5 w (q9 pr k Q))
  else (
  Q (.exit 0) (x0 out_3 stack_4) w)) := by kernel_rfl
theorem B4_s (p_0 : Sl) (out_3 : Sl) (stack_4 : Sl) (k_5 : Int) (w : World) (k : Env → World → Prop) (Q : Exit → Env → World → Prop) : B4 std p_0 out_3 stack_4 k_5 w k Q = (
  bif decide (k_5 < (p_0.n : Int)) then (
  L6 std p_0 out_3 stack_4 k_5 w (q9 std k Q))
  else (
  Q (.exit 0) (x0 out_3 stack_4) w)) := B4_eq std p_0 out_3 stack_4 k_5 w k Q
theorem L4_rule (p_0 : Sl) (out_3 : Sl) (stack_4 : Sl) (k_5 : Int) (w : World) (Q : Exit → Env → World → Prop) (I : Sl → Sl → Int → World → Prop) (μ : Sl → Sl → Int → World → Nat) (h0 : I out_3 stack_4 k_5 w)
    (h : ∀ (out_3 : Sl) (stack_4 : Sl) (k_5 : Int) (w' : World), I out_3 stack_4 k_5 w' → B4 std p_0 out_3 stack_4 k_5 w' (fun e2 w2 => ∃ out_3_n stack_4_n k_5_n, e2 = emb4 p_0 out_3_n stack_4_n k_5_n ∧ I out_3_n stack_4_n k_5_n w2 ∧ μ out_3_n stack_4_n k_5_n w2 < μ out_3 stack_4 k_5 w') Q) :
    L4 std p_0 out_3 stack_4 k_5 w Q := by
  unfold L4
  refine LoopE.intro (σ := Sl × Sl × Int) (step := S4 std Q) (fun s => emb4 p_0 s.1 s.2.1 s.2.2) (fun s w => I s.1 s.2.1 s.2.2 w) (fun s w => μ s.1 s.2.1 s.2.2 w) (out_3, stack_4, k_5) rfl h0 ?_
  intro s w' hI
  have h1 := h s.1 s.2.1 s.2.2 w' hI
  unfold B4 at h1
  simp only [Prod.exists]
  exact h1
theorem A4_0_eq (pr : Prims) (out_3 : Sl) (stack_4 : Sl) (w : World) (R : Ending → World → Prop) : (q5 pr R) (.exit 0) (x0 out_3 stack_4) w = (
  pr.call1 .sl PP F.spec_l3Reverse #[Sl.v stack_4] w fun (ρ29 : Sl) ω30 =>
  pr.sem1 .sl PP (Builtin.append_ #[T_Sint, T_Sint] T_Sint #[Sl.v out_3, Sl.v ρ29]) ω30 fun (ρ31 : Sl) ω32 =>
  R (.returned (Sl.v ρ31)) ω32) := by kernel_rfl
theorem A4_0_s (out_3 : Sl) (stack_4 : Sl) (w : World) (R : Ending → World → Prop) : (q5 std R) (.exit 0) (x0 out_3 stack_4) w = (
  call1 .sl PP F.spec_l3Reverse #[Sl.v stack_4] w fun (ρ29 : Sl) ω30 =>
  sem1 .sl PP (Builtin.append_ #[T_Sint, T_Sint] T_Sint #[Sl.v out_3, Sl.v ρ29]) ω30 fun (ρ31 : Sl) ω32 =>
  R (.returned (Sl.v ρ31)) ω32) := A4_0_eq std out_3 stack_4 w R
theorem E_eq (pr : Prims) (p_0 : Sl) (w : World) (R : Ending → World → Prop) : E pr p_0 w R = (
  pr.sem1 .sl PP (Instr.buildSlice T_Sint 0 #[]) w fun (ρ0 : Sl) ω1 =>
  pr.sem1 .sl PP (Instr.buildSlice T_Sint 0 #[]) ω1 fun (ρ2 : Sl) ω3 =>
  L4 pr p_0 ρ0 ρ2 0 ω3 (q5 pr R)) := by kernel_rfl
theorem E_s (p_0 : Sl) (w : World) (R : Ending → World → Prop) : E std p_0 w R = (
  sem1 .sl PP (Instr.buildSlice T_Sint 0 #[]) w fun (ρ0 : Sl) ω1 =>
  sem1 .sl PP (Instr.buildSlice T_Sint 0 #[]) ω1 fun (ρ2 : Sl) ω3 =>
  L4 std p_0 ρ0 ρ2 0 ω3 (q5 std R)) := E_eq std p_0 w R
theorem drawsOk : drawsOk PP cfg okD (codeOf Try.f74) = true := by kernel_rfl
theorem calls (p_0 : Sl) {w : World} {R : Ending → World → Prop} (h : E std p_0 w R) : Calls PP F.spec_l21Pass #[Sl.v p_0] w R :=
  calls_of noCount mixed drawOk Try.func74 rfl (c := cfg) (args := [Sl.v p_0]) rfl (Nat.le_of_ble_eq_true (by kernel_rfl)) drawsOk h
end spec_l21Pass

namespace spec_StackPass
@[reducible] def cfg : Cfg := ⟨9, [], [], [], [2], [], [101, 107, 112, 15, 21, 124, 76, 137, 28, 115, 91, 81, 130], [138, 140, 82, 6, 86, 85, 132]⟩
def E (pr : Prims) (p_0 : Sl) (w : World) (R : Ending → World → Prop) : Prop :=
  wpC pr PP cfg (DD pr) (codeOf Try.f16) (retQ Try.f16.results.toList R) (argE 0 [Sl.v p_0]) w
theorem E_eq (pr : Prims) (p_0 : Sl) (w : World) (R : Ending → World → Prop) : E pr p_0 w R = (
  pr.call1 .bool PP F.spec_IsPerm #[Sl.v p_0] w fun (ρ0 : Bool) ω1 =>
  bif !ρ0 then (
  pr.sem1 .sl PP (Instr.buildSlice T_Sint 0 #[]) ω1 fun (ρ2 : Sl) ω3 =>
  R (.returned (Sl.v ρ2)) ω3)
  else (
  pr.call1 .sl PP F.spec_l21Pass #[Sl.v p_0] ω1 fun (ρ4 : Sl) ω5 =>
  R (.returned (Sl.v ρ4)) ω5)) := by kernel_rfl
theorem E_s (p_0 : Sl) (w : World) (R : Ending → World → Prop) : E std p_0 w R = (
  call1 .bool PP F.spec_IsPerm #[Sl.v p_0] w fun (ρ0 : Bool) ω1 =>
  bif !ρ0 then (
  sem1 .sl PP (Instr.buildSlice T_Sint 0 #[]) ω1 fun (ρ2 : Sl) ω3 =>
  R (.returned (Sl.v ρ2)) ω3)
  else (
  call1 .sl PP F.spec_l21Pass #[Sl.v p_0] ω1 fun (ρ4 : Sl) ω5 =>
  R (.returned (Sl.v ρ4)) ω5)) := E_eq std p_0 w R
theorem drawsOk : drawsOk PP cfg okD (codeOf Try.f16) = true := by kernel_rfl
theorem calls (p_0 : Sl) {w : World} {R : Ending → World → Prop} (h : E std p_0 w R) : Calls PP F.spec_StackPass #[Sl.v p_0] w R :=
  calls_of noCount mixed drawOk Try.func16 rfl (c := cfg) (args := [Sl.v p_0]) rfl (Nat.le_of_ble_eq_true (by kernel_rfl)) drawsOk h
end spec_StackPass

namespace spec_IsStackSorted
@[reducible] def cfg : Cfg := ⟨10, [], [], [], [2], [], [101, 107, 112, 15, 21, 124, 76, 137, 28, 115, 91, 81, 130], [138, 140, 82, 6, 86, 85, 132]⟩
def E (pr : Prims) (p_0 : Sl) (w : World) (R : Ending → World → Prop) : Prop :=
  wpC pr PP cfg (DD pr) (codeOf Try.f18) (retQ Try.f18.results.toList R) (argE 0 [Sl.v p_0]) w
theorem E_eq (pr : Prims) (p_0 : Sl) (w : World) (R : Ending → World → Prop) : E pr p_0 w R = (
  pr.call1 .bool PP F.spec_IsPerm #[Sl.v p_0] w fun (ρ0 : Bool) ω1 =>
  bif ρ0 then (
  pr.call1 .sl PP F.spec_l21Pass #[Sl.v p_0] ω1 fun (ρ2 : Sl) ω3 =>
  pr.call1 .bool PP F.spec_l13Straight #[Sl.v ρ2] ω3 fun (ρ4 : Bool) ω5 =>
  R (.returned (.bool ρ4)) ω5)
  else (
  R (.returned (.bool false)) ω1)) := by kernel_rfl
theorem E_s (p_0 : Sl) (w : World) (R : Ending → World → Prop) : E std p_0 w R = (
  call1 .bool PP F.spec_IsPerm #[Sl.v p_0] w fun (ρ0 : Bool) ω1 =>
  bif ρ0 then (
  call1 .sl PP F.spec_l21Pass #[Sl.v p_0] ω1 fun (ρ2 : Sl) ω3 =>
  call1 .bool PP F.spec_l13Straight #[Sl.v ρ2] ω3 fun (ρ4 : Bool) ω5 =>
  R (.returned (.bool ρ4)) ω5)
  else (
  R (.returned (.bool false)) ω1)) := E_eq std p_0 w R
theorem drawsOk : drawsOk PP cfg okD (codeOf Try.f18) = true := by kernel_rfl
theorem calls (p_0 : Sl) {w : World} {R : Ending → World → Prop} (h : E std p_0 w R) : Calls PP F.spec_IsStackSorted #[Sl.v p_0] w R :=
  calls_of noCount mixed drawOk Try.func18 rfl (c := cfg) (args := [Sl.v p_0]) rfl (Nat.le_of_ble_eq_true (by kernel_rfl)) drawsOk h
end spec_IsStackSorted

namespace spec_StackTimes
@[reducible] def cfg : Cfg := ⟨15, [(4, [0, 3])], [(1, [0, 3]), (0, [3])], [], [2], [], [101, 107, 112, 15, 21, 124, 76, 137, 28, 115, 91, 81, 130], [138, 140, 82, 6, 86, 85, 132]⟩
def q2 (pr : Prims) (R : Ending → World → Prop) : Exit → Env → World → Prop := fun ex e w => normQ ex (fun e w => contE pr cfg (sub (codeOf Try.f20) [1, 1, 1, 1]) (fun e w => wpC pr PP cfg (DD pr) (sub (codeOf Try.f20) [1, 1, 1, 1]) (retQ Try.f20.results.toList R) e w) e w) (retQ Try.f20.results.toList R) e w
def q3 (pr : Prims) (R : Ending → World → Prop) : Exit → Env → World → Prop := fun ex e w => blockQ ex 0 (q2 pr R) e w
def emb4 (p_0 : Sl) (n_3 : Int) : Env := [(0, Sl.v p_0), (3, vI n_3)]
def x0 (n_3 : Int) : Env := [(3, vI n_3)]
def S4 (pr : Prims) (Q : Exit → Env → World → Prop) : (Env → World → Prop) → Env → World → Prop := fun k e w => wpC pr PP cfg (DD pr) (sub (codeOf Try.f20) [1, 1, 1, 0, 0, 0]) (fun ex e w => normQ ex (fun e' w' => k (Env.restr e' (lookN cfg.loops (keyOf (sub (codeOf Try.f20) [1, 1, 1, 0, 0, 0])))) w') Q e w) e w
def B4 (pr : Prims) (p_0 : Sl) (n_3 : Int) (w : World) (k : Env → World → Prop) (Q : Exit → Env → World → Prop) : Prop :=
  S4 pr Q k (emb4 p_0 n_3) w
def L4 (pr : Prims) (p_0 : Sl) (n_3 : Int) (w : World) (Q : Exit → Env → World → Prop) : Prop :=
  pr.loop (S4 pr Q) (emb4 p_0 n_3) w
def E (pr : Prims) (p_0 : Sl) (w : World) (R : Ending → World → Prop) : Prop :=
  wpC pr PP cfg (DD pr) (codeOf Try.f20) (retQ Try.f20.results.toList R) (argE 0 [Sl.v p_0]) w
theorem B4_eq (pr : Prims) (p_0 : Sl) (n_3 : Int) (w : World) (k : Env → World → Prop) (Q : Exit → Env → World → Prop) : B4 pr p_0 n_3 w k Q = (
  pr.call1 .bool PP F.spec_l13Straight #[Sl.v p_0] w fun (ρ4 : Bool) ω5 =>
  bif !ρ4 then (
  pr.call1 .sl PP F.spec_l21Pass #[Sl.v p_0] ω5 fun (ρ6 : Sl) ω7 =>
  k (emb4 ρ6 (w64 (n_3 + 1))) ω7)
  else (
  Q (.exit 0) (x0 n_3) ω5)) := by kernel_rfl
theorem B4_s (p_0 : Sl) (n_3 : Int) (w : World) (k : Env → World → Prop) (Q : Exit → Env → World → Prop) : B4 std p_0 n_3 w k Q = (
  call1 .bool PP F.spec_l13Straight #[Sl.v p_0] w fun (ρ4 : Bool) ω5 =>
  bif !ρ4 then (
  call1 .sl PP F.spec_l21Pass #[Sl.v p_0] ω5 fun (ρ6 : Sl) ω7 =>
  k (emb4 ρ6 (w64 (n_3 + 1))) ω7)
  else (
  Q (.exit 0) (x0 n_3) ω5)) := B4_eq std p_0 n_3 w k Q
theorem L4_rule (p_0 : Sl) (n_3 : Int) (w : World) (Q : Exit → Env → World → Prop) (I : Sl → Int → World → Prop) (μ : Sl → Int → World → Nat) (h0 : I p_0 n_3 w)
    (h : ∀ (p_0 : Sl) (n_3 : Int) (w' : World), I p_0 n_3 w' → B4 std p_0 n_3 w' (fun e2 w2 => ∃ p_0_n n_3_n, e2 = emb4 p_0_n n_3_n ∧ I p_0_n n_3_n w2 ∧ μ p_0_n n_3_n w2 < μ p_0 n_3 w') Q) :
    L4 std p_0 n_3 w Q := by
  unfold L4
  refine LoopE.intro (σ := Sl × Int) (step := S4 std Q) (fun s => emb4 s.1 s.2) (fun s w => I s.1 s.2 w) (fun s w => μ s.1 s.2 w) (p_0, n_3) rfl h0 ?_
  intro s w' hI
  have h1 := h s.1 s.2 w' hI
  unfold B4 at h1
  simp only [Prod.exists]
  exact h1
theorem A4_0_eq (pr : Prims) (n_3 : Int) (w : World) (R : Ending → World → Prop) : (q3 pr R) (.exit 0) (x0 n_3) w = (
  R (.returned (vI n_3)) w) := by kernel_rfl
theorem A4_0_s (n_3 : Int) (w : World) (R : Ending → World → Prop) : (q3 std R) (.exit 0) (x0 n_3) w = (
  R (.returned (vI n_3)) w) := A4_0_eq std n_3 w R
theorem E_eq (pr : Prims) (p_0 : Sl) (w : World) (R : Ending → World → Prop) : E pr p_0 w R = (
  pr.call1 .bool PP F.spec_IsPerm #[Sl.v p_0] w fun (ρ0 : Bool) ω1 =>
  bif !ρ0 then (
  R (.returned (vI (-1))) ω1)
  else (
  L4 pr p_0 0 ω1 (q3 pr R))) := by kernel_rfl
theorem E_s (p_0 : Sl) (w : World) (R : Ending → World → Prop) : E std p_0 w R = (
  call1 .bool PP F.spec_IsPerm #[Sl.v p_0] w fun (ρ0 : Bool) ω1 =>
  bif !ρ0 then (
  R (.returned (vI (-1))) ω1)
  else (
  L4 std p_0 0 ω1 (q3 std R))) := E_eq std p_0 w R
theorem drawsOk : drawsOk PP cfg okD (codeOf Try.f20) = true := by kernel_rfl
theorem calls (p_0 : Sl) {w : World} {R : Ending → World → Prop} (h : E std p_0 w R) : Calls PP F.spec_StackTimes #[Sl.v p_0] w R :=
  calls_of noCount mixed drawOk Try.func20 rfl (c := cfg) (args := [Sl.v p_0]) rfl (Nat.le_of_ble_eq_true (by kernel_rfl)) drawsOk h
end spec_StackTimes

namespace impl_isForm
@[reducible] def cfg : Cfg := ⟨41, [(3, [0, 1, 5, 8, 9, 10])], [(1, [0, 1, 5, 8, 9, 10]), (0, [])], [], [4], [], [101, 107, 112, 15, 21, 124, 76, 137, 28, 115, 91, 81, 130], [138, 140, 82, 6, 86, 85, 132]⟩
def q0 (pr : Prims) (R : Ending → World → Prop) : Exit → Env → World → Prop := fun ex e w => normQ ex (fun e w => contE pr cfg (sub (codeOf Try.f112) [1, 1, 1]) (fun e w => wpC pr PP cfg (DD pr) (sub (codeOf Try.f112) [1, 1, 1]) (retQ Try.f112.results.toList R) e w) e w) (retQ Try.f112.results.toList R) e w
def q1 (pr : Prims) (R : Ending → World → Prop) : Exit → Env → World → Prop := fun ex e w => blockQ ex 0 (q0 pr R) e w
def emb3 (form_0 : Sl) (most_1 : Int) (sum_5 : Int) (t8 : Sl) (t9 : Int) (t10 : Int) : Env := [(0, Sl.v form_0), (1, vI most_1), (5, vI sum_5), (8, Sl.v t8), (9, vI t9), (10, vI t10)]
def x0 : Env := []
def S3 (pr : Prims) (Q : Exit → Env → World → Prop) : (Env → World → Prop) → Env → World → Prop := fun k e w => wpC pr PP cfg (DD pr) (sub (codeOf Try.f112) [1, 1, 0, 1, 0, 0]) (fun ex e w => normQ ex (fun e' w' => k (Env.restr e' (lookN cfg.loops (keyOf (sub (codeOf Try.f112) [1, 1, 0, 1, 0, 0])))) w') Q e w) e w
def B3 (pr : Prims) (form_0 : Sl) (most_1 : Int) (sum_5 : Int) (t8 : Sl) (t9 : Int) (t10 : Int) (w : World) (k : Env → World → Prop) (Q : Exit → Env → World → Prop) : Prop :=
  S3 pr Q k (emb3 form_0 most_1 sum_5 t8 t9 t10) w
def L3 (pr : Prims) (form_0 : Sl) (most_1 : Int) (sum_5 : Int) (t8 : Sl) (t9 : Int) (t10 : Int) (w : World) (Q : Exit → Env → World → Prop) : Prop :=
  pr.loop (S3 pr Q) (emb3 form_0 most_1 sum_5 t8 t9 t10) w
def E (pr : Prims) (form_0 : Sl) (most_1 : Int) (w : World) (R : Ending → World → Prop) : Prop :=
  wpC pr PP cfg (DD pr) (codeOf Try.f112) (retQ Try.f112.results.toList R) (argE 0 [Sl.v form_0, vI most_1]) w
theorem B3_eq (pr : Prims) (form_0 : Sl) (most_1 : Int) (sum_5 : Int) (t8 : Sl) (t9 : Int) (t10 : Int) (w : World) (k : Env → World → Prop) (Q : Exit → Env → World → Prop) : B3 pr form_0 most_1 sum_5 t8 t9 t10 w k Q = (
  bif decide (t10 < t9) then (
  pr.idxK 1 t8 t10 fun (a2 : Addr) =>
  pr.load1 (.int .i64) a2 w fun (ξ3 : Int) =>
  bif decide (ξ3 < 1) then (
  Q .ret [(4, .bool false)] w)
  else (
  bif decide (ξ3 > (w64 (most_1 - sum_5))) then (
  Q .ret [(4, .bool false)] w)
  else (
  bif decide (t10 > 0) then (
  pr.idxK 1 form_0 (w64 (t10 - 1)) fun (a4 : Addr) =>
  pr.load1 (.int .i64) a4 w fun (ξ5 : Int) =>
  bif decide (ξ3 > ξ5) then (
  Q .ret [(4, .bool false)] w)
  else (
  k (emb3 form_0 most_1 (w64 (sum_5 + ξ3)) t8 t9 (w64 (t10 + 1))) w))
  else (
  k (emb3 form_0 most_1 (w64 (sum_5 + ξ3)) t8 t9 (w64 (t10 + 1))) w))))
  else (
  Q (.exit 0) (x0) w)) := by kernel_rfl
theorem B3_s (form_0 : Sl) (most_1 : Int) (sum_5 : Int) (t8 : Sl) (t9 : Int) (t10 : Int) (w : World) (k : Env → World → Prop) (Q : Exit → Env → World → Prop) : B3 std form_0 most_1 sum_5 t8 t9 t10 w k Q = (
  bif decide (t10 < t9) then (
  idxK 1 t8 t10 fun (a2 : Addr) =>
  load1 (.int .i64) a2 w fun (ξ3 : Int) =>
  bif decide (ξ3 < 1) then (
  Q .ret [(4, .bool false)] w)
  else (
  bif decide (ξ3 > (w64 (most_1 - sum_5))) then (
  Q .ret [(4, .bool false)] w)
  else (
  bif decide (t10 > 0) then (
  idxK 1 form_0 (w64 (t10 - 1)) fun (a4 : Addr) =>
  load1 (.int .i64) a4 w fun (ξ5 : Int) =>
  bif decide (ξ3 > ξ5) then (
  Q .ret [(4, .bool false)] w)
  else (
  k (emb3 form_0 most_1 (w64 (sum_5 + ξ3)) t8 t9 (w64 (t10 + 1))) w))
  else (
  k (emb3 form_0 most_1 (w64 (sum_5 + ξ3)) t8 t9 (w64 (t10 + 1))) w))))
  else (
  Q (.exit 0) (x0) w)) := B3_eq std form_0 most_1 sum_5 t8 t9 t10 w k Q
theorem L3_rule (form_0 : Sl) (most_1 : Int) (sum_5 : Int) (t8 : Sl) (t9 : Int) (t10 : Int) (w : World) (Q : Exit → Env → World → Prop) (I : Int → Int → World → Prop) (μ : Int → Int → World → Nat) (h0 : I sum_5 t10 w)
    (h : ∀ (sum_5 : Int) (t10 : Int) (w' : World), I sum_5 t10 w' → B3 std form_0 most_1 sum_5 t8 t9 t10 w' (fun e2 w2 => ∃ sum_5_n t10_n, e2 = emb3 form_0 most_1 sum_5_n t8 t9 t10_n ∧ I sum_5_n t10_n w2 ∧ μ sum_5_n t10_n w2 < μ sum_5 t10 w') Q) :
    L3 std form_0 most_1 sum_5 t8 t9 t10 w Q := by
  unfold L3
  refine LoopE.intro (σ := Int × Int) (step := S3 std Q) (fun s => emb3 form_0 most_1 s.1 t8 t9 s.2) (fun s w => I s.1 s.2 w) (fun s w => μ s.1 s.2 w) (sum_5, t10) rfl h0 ?_
  intro s w' hI
  have h1 := h s.1 s.2 w' hI
  unfold B3 at h1
  simp only [Prod.exists]
  exact h1
theorem A3_0_eq (pr : Prims) (w : World) (R : Ending → World → Prop) : (q1 pr R) (.exit 0) (x0) w = (
  R (.returned (.bool true)) w) := by kernel_rfl
theorem A3_0_s (w : World) (R : Ending → World → Prop) : (q1 std R) (.exit 0) (x0) w = (
  R (.returned (.bool true)) w) := A3_0_eq std w R
theorem R3_eq (pr : Prims) (v4 : Value) (w : World) (R : Ending → World → Prop) : (q1 pr R) .ret [(4, v4)] w = (
  R (.returned (v4)) w) := by kernel_rfl
theorem R3_s (v4 : Value) (w : World) (R : Ending → World → Prop) : (q1 std R) .ret [(4, v4)] w = (
  R (.returned (v4)) w) := R3_eq std v4 w R
theorem E_eq (pr : Prims) (form_0 : Sl) (most_1 : Int) (w : World) (R : Ending → World → Prop) : E pr form_0 most_1 w R = (
  L3 pr form_0 most_1 0 form_0 (form_0.n : Int) 0 w (q1 pr R)) := by kernel_rfl
theorem E_s (form_0 : Sl) (most_1 : Int) (w : World) (R : Ending → World → Prop) : E std form_0 most_1 w R = (
  L3 std form_0 most_1 0 form_0 (form_0.n : Int) 0 w (q1 std R)) := E_eq std form_0 most_1 w R
theorem drawsOk : drawsOk PP cfg okD (codeOf Try.f112) = true := by kernel_rfl
theorem calls (form_0 : Sl) (most_1 : Int) {w : World} {R : Ending → World → Prop} (h : E std form_0 most_1 w R) : Calls PP F.impl_isForm #[Sl.v form_0, vI most_1] w R :=
  calls_of noCount mixed drawOk Try.func112 rfl (c := cfg) (args := [Sl.v form_0, vI most_1]) rfl (Nat.le_of_ble_eq_true (by kernel_rfl)) drawsOk h
end impl_isForm

namespace spec_l19Form
@[reducible] def cfg : Cfg := ⟨56, [(3, [0, 1, 5, 6])], [(1, [0, 1, 5, 6]), (0, [1, 5])], [], [4], [5], [101, 107, 112, 15, 21, 124, 76, 137, 28, 115, 91, 81, 130], [138, 140, 82, 6, 86, 85, 132]⟩
def q0 (pr : Prims) (R : Ending → World → Prop) : Exit → Env → World → Prop := fun ex e w => normQ ex (fun e w => contE pr cfg (sub (codeOf Try.f115) [1, 1, 1]) (fun e w => wpC pr PP cfg (DD pr) (sub (codeOf Try.f115) [1, 1, 1]) (retQ Try.f115.results.toList R) e w) e w) (retQ Try.f115.results.toList R) e w
def q1 (pr : Prims) (R : Ending → World → Prop) : Exit → Env → World → Prop := fun ex e w => blockQ ex 0 (q0 pr R) e w
def emb3 (form_0 : Sl) (most_1 : Int) (sum_5 : Int) (k_6 : Int) : Env := [(0, Sl.v form_0), (1, vI most_1), (5, vI sum_5), (6, vI k_6)]
def x0 (most_1 : Int) (sum_5 : Int) : Env := [(1, vI most_1), (5, vI sum_5)]
def S3 (pr : Prims) (Q : Exit → Env → World → Prop) : (Env → World → Prop) → Env → World → Prop := fun k e w => wpC pr PP cfg (DD pr) (sub (codeOf Try.f115) [1, 1, 0, 1, 0, 0]) (fun ex e w => normQ ex (fun e' w' => k (Env.restr e' (lookN cfg.loops (keyOf (sub (codeOf Try.f115) [1, 1, 0, 1, 0, 0])))) w') Q e w) e w
def B3 (pr : Prims) (form_0 : Sl) (most_1 : Int) (sum_5 : Int) (k_6 : Int) (w : World) (k : Env → World → Prop) (Q : Exit → Env → World → Prop) : Prop :=
  S3 pr Q k (emb3 form_0 most_1 sum_5 k_6) w
def L3 (pr : Prims) (form_0 : Sl) (most_1 : Int) (sum_5 : Int) (k_6 : Int) (w : World) (Q : Exit → Env → World → Prop) : Prop :=
  pr.loop (S3 pr Q) (emb3 form_0 most_1 sum_5 k_6) w
def E (pr : Prims) (form_0 : Sl) (most_1 : Int) (w : World) (R : Ending → World → Prop) : Prop :=
  wpC pr PP cfg (DD pr) (codeOf Try.f115) (retQ Try.f115.results.toList R) (argE 0 [Sl.v form_0, vI most_1]) w
theorem B3_eq (pr : Prims) (form_0 : Sl) (most_1 : Int) (sum_5 : Int) (k_6 : Int) (w : World) (k : Env → World → Prop) (Q : Exit → Env → World → Prop) : B3 pr form_0 most_1 sum_5 k_6 w k Q = (
  bif decide (k_6 < (form_0.n : Int)) then (
  pr.idxK 1 form_0 k_6 fun (a2 : Addr) =>
  pr.load1 (.int .i64) a2 w fun (ξ3 : Int) =>
  bif decide (ξ3 < 1) then (
  pr.drewAll w fun ω4 =>
  Q .ret [(4, .bool false)] ω4)
  else (
  pr.idxK 1 form_0 k_6 fun (a5 : Addr) =>
  pr.load1 (.int .i64) a5 w fun (ξ6 : Int) =>
  bif decide (ξ6 > most_1) then (
  pr.drewAll w fun ω7 =>
  Q .ret [(4, .bool false)] ω7)
  else (
  bif decide (k_6 > 0) then (
  pr.idxK 1 form_0 k_6 fun (a8 : Addr) =>
  pr.load1 (.int .i64) a8 w fun (ξ9 : Int) =>
  pr.idxK 1 form_0 (w64 (k_6 - 1)) fun (a10 : Addr) =>
  pr.load1 (.int .i64) a10 w fun (ξ11 : Int) =>
  bif decide (ξ9 > ξ11) then (
  pr.drewAll w fun ω12 =>
  Q .ret [(4, .bool false)] ω12)
  else (
  pr.drewAll w fun ω13 =>
  bif decide (k_6 ≥ most_1) then (
  Q .ret [(4, .bool false)] ω13)
  else (
  pr.idxK 1 form_0 k_6 fun (a14 : Addr) =>
  pr.load1 (.int .i64) a14 ω13 fun (ξ15 : Int) =>
  k (emb3 form_0 most_1 (w64 (sum_5 + ξ15)) (w64 (k_6 + 1))) ω13)))
  else (
  pr.drewAll w fun ω16 =>
  bif decide (k_6 ≥ most_1) then (
  Q .ret [(4, .bool false)] ω16)
  else (
  pr.idxK 1 form_0 k_6 fun (a17 : Addr) =>
  pr.load1 (.int .i64) a17 ω16 fun (ξ18 : Int) =>
  k (emb3 form_0 most_1 (w64 (sum_5 + ξ18)) (w64 (k_6 + 1))) ω16)))))
  else (
  Q (.exit 0) (x0 most_1 sum_5) w)) := by kernel_rfl
theorem B3_s (form_0 : Sl) (most_1 : Int) (sum_5 : Int) (k_6 : Int) (w : World) (k : Env → World → Prop) (Q : Exit → Env → World → Prop) : B3 std form_0 most_1 sum_5 k_6 w k Q = (
  bif decide (k_6 < (form_0.n : Int)) then (
  idxK 1 form_0 k_6 fun (a2 : Addr) =>
  load1 (.int .i64) a2 w fun (ξ3 : Int) =>
  bif decide (ξ3 < 1) then (
  drewAll w fun ω4 =>
  Q .ret [(4, .bool false)] ω4)
  else (
  idxK 1 form_0 k_6 fun (a5 : Addr) =>
  load1 (.int .i64) a5 w fun (ξ6 : Int) =>
  bif decide (ξ6 > most_1) then (
  drewAll w fun ω7 =>
  Q .ret [(4, .bool false)] ω7)
  else (
  bif decide (k_6 > 0) then (
  idxK 1 form_0 k_6 fun (a8 : Addr) =>
  load1 (.int .i64) a8 w fun (ξ9 : Int) =>
  idxK 1 form_0 (w64 (k_6 - 1)) fun (a10 : Addr) =>
  load1 (.int .i64) a10 w fun (ξ11 : Int) =>
  bif decide (ξ9 > ξ11) then (
  drewAll w fun ω12 =>
  Q .ret [(4, .bool false)] ω12)
  else (
  drewAll w fun ω13 =>
  bif decide (k_6 ≥ most_1) then (
  Q .ret [(4, .bool false)] ω13)
  else (
  idxK 1 form_0 k_6 fun (a14 : Addr) =>
  load1 (.int .i64) a14 ω13 fun (ξ15 : Int) =>
  k (emb3 form_0 most_1 (w64 (sum_5 + ξ15)) (w64 (k_6 + 1))) ω13)))
  else (
  drewAll w fun ω16 =>
  bif decide (k_6 ≥ most_1) then (
  Q .ret [(4, .bool false)] ω16)
  else (
  idxK 1 form_0 k_6 fun (a17 : Addr) =>
  load1 (.int .i64) a17 ω16 fun (ξ18 : Int) =>
  k (emb3 form_0 most_1 (w64 (sum_5 + ξ18)) (w64 (k_6 + 1))) ω16)))))
  else (
  Q (.exit 0) (x0 most_1 sum_5) w)) := B3_eq std form_0 most_1 sum_5 k_6 w k Q
theorem L3_rule (form_0 : Sl) (most_1 : Int) (sum_5 : Int) (k_6 : Int) (w : World) (Q : Exit → Env → World → Prop) (I : Int → Int → World → Prop) (μ : Int → Int → World → Nat) (h0 : I sum_5 k_6 w)
    (h : ∀ (sum_5 : Int) (k_6 : Int) (w' : World), I sum_5 k_6 w' → B3 std form_0 most_1 sum_5 k_6 w' (fun e2 w2 => ∃ sum_5_n k_6_n, e2 = emb3 form_0 most_1 sum_5_n k_6_n ∧ I sum_5_n k_6_n w2 ∧ μ sum_5_n k_6_n w2 < μ sum_5 k_6 w') Q) :
    L3 std form_0 most_1 sum_5 k_6 w Q := by
  unfold L3
  refine LoopE.intro (σ := Int × Int) (step := S3 std Q) (fun s => emb3 form_0 most_1 s.1 s.2) (fun s w => I s.1 s.2 w) (fun s w => μ s.1 s.2 w) (sum_5, k_6) rfl h0 ?_
  intro s w' hI
  have h1 := h s.1 s.2 w' hI
  unfold B3 at h1
  simp only [Prod.exists]
  exact h1
theorem A3_0_eq (pr : Prims) (most_1 : Int) (sum_5 : Int) (w : World) (R : Ending → World → Prop) : (q1 pr R) (.exit 0) (x0 most_1 sum_5) w = (
  R (.returned (.bool (decide (sum_5 ≤ most_1)))) w) := by kernel_rfl
theorem A3_0_s (most_1 : Int) (sum_5 : Int) (w : World) (R : Ending → World → Prop) : (q1 std R) (.exit 0) (x0 most_1 sum_5) w = (
  R (.returned (.bool (decide (sum_5 ≤ most_1)))) w) := A3_0_eq std most_1 sum_5 w R
theorem R3_eq (pr : Prims) (v4 : Value) (w : World) (R : Ending → World → Prop) : (q1 pr R) .ret [(4, v4)] w = (
  R (.returned (v4)) w) := by kernel_rfl
theorem R3_s (v4 : Value) (w : World) (R : Ending → World → Prop) : (q1 std R) .ret [(4, v4)] w = (
  R (.returned (v4)) w) := R3_eq std v4 w R
theorem E_eq (pr : Prims) (form_0 : Sl) (most_1 : Int) (w : World) (R : Ending → World → Prop) : E pr form_0 most_1 w R = (
  L3 pr form_0 most_1 0 0 w (q1 pr R)) := by kernel_rfl
theorem E_s (form_0 : Sl) (most_1 : Int) (w : World) (R : Ending → World → Prop) : E std form_0 most_1 w R = (
  L3 std form_0 most_1 0 0 w (q1 std R)) := E_eq std form_0 most_1 w R
theorem drawsOk : drawsOk PP cfg okD (codeOf Try.f115) = true := by kernel_rfl
theorem calls (form_0 : Sl) (most_1 : Int) {w : World} {R : Ending → World → Prop} (h : E std form_0 most_1 w R) : Calls PP F.spec_l19Form #[Sl.v form_0, vI most_1] w R :=
  calls_of noCount mixed drawOk Try.func115 rfl (c := cfg) (args := [Sl.v form_0, vI most_1]) rfl (Nat.le_of_ble_eq_true (by kernel_rfl)) drawsOk h
end spec_l19Form

namespace spec_l1Max
@[reducible] def cfg : Cfg := ⟨10, [], [], [], [4], [], [101, 107, 112, 15, 21, 124, 76, 137, 28, 115, 91, 81, 130], [138, 140, 82, 6, 86, 85, 132]⟩
def E (pr : Prims) (a_0 : Int) (b_1 : Int) (w : World) (R : Ending → World → Prop) : Prop :=
  wpC pr PP cfg (DD pr) (codeOf Try.f132) (retQ Try.f132.results.toList R) (argE 0 [vI a_0, vI b_1]) w
theorem E_eq (pr : Prims) (a_0 : Int) (b_1 : Int) (w : World) (R : Ending → World → Prop) : E pr a_0 b_1 w R = (
  bif decide (a_0 > b_1) then (
  R (.returned (vI a_0)) w)
  else (
  R (.returned (vI b_1)) w)) := by kernel_rfl
theorem E_s (a_0 : Int) (b_1 : Int) (w : World) (R : Ending → World → Prop) : E std a_0 b_1 w R = (
  bif decide (a_0 > b_1) then (
  R (.returned (vI a_0)) w)
  else (
  R (.returned (vI b_1)) w)) := E_eq std a_0 b_1 w R
theorem drawsOk : drawsOk PP cfg okD (codeOf Try.f132) = true := by kernel_rfl
theorem calls (a_0 : Int) (b_1 : Int) {w : World} {R : Ending → World → Prop} (h : E std a_0 b_1 w R) : Calls PP F.spec_l1Max #[vI a_0, vI b_1] w R :=
  calls_of noCount mixed drawOk Try.func132 rfl (c := cfg) (args := [vI a_0, vI b_1]) rfl (Nat.le_of_ble_eq_true (by kernel_rfl)) drawsOk h
end spec_l1Max

namespace impl_isSix
@[reducible] def cfg : Cfg := ⟨9, [], [], [], [2], [], [101, 107, 112, 15, 21, 124, 76, 137, 28, 115, 91, 81, 130], [138, 140, 82, 6, 86, 85, 132]⟩
def E (pr : Prims) (n_0 : Int) (w : World) (R : Ending → World → Prop) : Prop :=
  wpC pr PP cfg (DD pr) (codeOf Try.f82) (retQ Try.f82.results.toList R) (argE 0 [vI n_0]) w
theorem E_eq (pr : Prims) (n_0 : Int) (w : World) (R : Ending → World → Prop) : E pr n_0 w R = (
  bif decide (n_0 ≥ 0) then (
  R (.returned (.bool (decide (n_0 ≤ 6)))) w)
  else (
  R (.returned (.bool false)) w)) := by kernel_rfl
theorem E_s (n_0 : Int) (w : World) (R : Ending → World → Prop) : E std n_0 w R = (
  bif decide (n_0 ≥ 0) then (
  R (.returned (.bool (decide (n_0 ≤ 6)))) w)
  else (
  R (.returned (.bool false)) w)) := E_eq std n_0 w R
theorem drawsOk : drawsOk PP cfg okD (codeOf Try.f82) = true := by kernel_rfl
theorem calls (n_0 : Int) {w : World} {R : Ending → World → Prop} (h : E std n_0 w R) : Calls PP F.impl_isSix #[vI n_0] w R :=
  calls_of noCount mixed drawOk Try.func82 rfl (c := cfg) (args := [vI n_0]) rfl (Nat.le_of_ble_eq_true (by kernel_rfl)) drawsOk h
end impl_isSix

namespace cmp_isNaN_int_
@[reducible] def cfg : Cfg := ⟨6, [], [], [], [2], [], [101, 107, 112, 15, 21, 124, 76, 137, 28, 115, 91, 81, 130], [138, 140, 82, 6, 86, 85, 132]⟩
def E (pr : Prims) (x_0 : Int) (w : World) (R : Ending → World → Prop) : Prop :=
  wpC pr PP cfg (DD pr) (codeOf Try.f140) (retQ Try.f140.results.toList R) (argE 0 [vI x_0]) w
theorem E_eq (pr : Prims) (x_0 : Int) (w : World) (R : Ending → World → Prop) : E pr x_0 w R = (
  R (.returned (.bool (x_0 != x_0))) w) := by kernel_rfl
theorem E_s (x_0 : Int) (w : World) (R : Ending → World → Prop) : E std x_0 w R = (
  R (.returned (.bool (x_0 != x_0))) w) := E_eq std x_0 w R
theorem drawsOk : drawsOk PP cfg okD (codeOf Try.f140) = true := by kernel_rfl
theorem calls (x_0 : Int) {w : World} {R : Ending → World → Prop} (h : E std x_0 w R) : Calls PP F.cmp_isNaN_int_ #[vI x_0] w R :=
  calls_of noCount mixed drawOk Try.func140 rfl (c := cfg) (args := [vI x_0]) rfl (Nat.le_of_ble_eq_true (by kernel_rfl)) drawsOk h
end cmp_isNaN_int_

namespace spec_IdentityPerm
@[reducible] def cfg : Cfg := ⟨20, [(3, [0, 3, 4])], [(1, [0, 3, 4]), (0, [3])], [], [2], [], [101, 107, 112, 15, 21, 124, 76, 137, 28, 115, 91, 81, 130], [138, 140, 82, 6, 86, 85, 132]⟩
def q2 (pr : Prims) (R : Ending → World → Prop) : Exit → Env → World → Prop := fun ex e w => normQ ex (fun e w => contE pr cfg (sub (codeOf Try.f96) [1, 1, 1]) (fun e w => wpC pr PP cfg (DD pr) (sub (codeOf Try.f96) [1, 1, 1]) (retQ Try.f96.results.toList R) e w) e w) (retQ Try.f96.results.toList R) e w
def q3 (pr : Prims) (R : Ending → World → Prop) : Exit → Env → World → Prop := fun ex e w => blockQ ex 0 (q2 pr R) e w
def emb3 (n_0 : Int) (out_3 : Sl) (k_4 : Int) : Env := [(0, vI n_0), (3, Sl.v out_3), (4, vI k_4)]
def x0 (out_3 : Sl) : Env := [(3, Sl.v out_3)]
def S3 (pr : Prims) (Q : Exit → Env → World → Prop) : (Env → World → Prop) → Env → World → Prop := fun k e w => wpC pr PP cfg (DD pr) (sub (codeOf Try.f96) [1, 1, 0, 1, 0, 0]) (fun ex e w => normQ ex (fun e' w' => k (Env.restr e' (lookN cfg.loops (keyOf (sub (codeOf Try.f96) [1, 1, 0, 1, 0, 0])))) w') Q e w) e w
def B3 (pr : Prims) (n_0 : Int) (out_3 : Sl) (k_4 : Int) (w : World) (k : Env → World → Prop) (Q : Exit → Env → World → Prop) : Prop :=
  S3 pr Q k (emb3 n_0 out_3 k_4) w
def L3 (pr : Prims) (n_0 : Int) (out_3 : Sl) (k_4 : Int) (w : World) (Q : Exit → Env → World → Prop) : Prop :=
  pr.loop (S3 pr Q) (emb3 n_0 out_3 k_4) w
def E (pr : Prims) (n_0 : Int) (w : World) (R : Ending → World → Prop) : Prop :=
  wpC pr PP cfg (DD pr) (codeOf Try.f96) (retQ Try.f96.results.toList R) (argE 0 [vI n_0]) w
theorem B3_eq (pr : Prims) (n_0 : Int) (out_3 : Sl) (k_4 : Int) (w : World) (k : Env → World → Prop) (Q : Exit → Env → World → Prop) : B3 pr n_0 out_3 k_4 w k Q = (
  bif decide (k_4 ≤ n_0) then (
  bif decide (n_0 ≤ 8) then (
  pr.sem1 .sl PP (Instr.buildSlice T_Sint 1 #[(0, vI k_4)]) w fun (ρ4 : Sl) ω5 =>
  pr.sem1 .sl PP (Builtin.append_ #[T_Sint, T_Sint] T_Sint #[Sl.v out_3, Sl.v ρ4]) ω5 fun (ρ6 : Sl) ω7 =>
  k (emb3 n_0 ρ6 (w64 (k_4 + 1))) ω7)
  else (
  Q (.exit 0) (x0 out_3) w))
  else (
  Q (.exit 0) (x0 out_3) w)) := by kernel_rfl
theorem B3_s (n_0 : Int) (out_3 : Sl) (k_4 : Int) (w : World) (k : Env → World → Prop) (Q : Exit → Env → World → Prop) : B3 std n_0 out_3 k_4 w k Q = (
  bif decide (k_4 ≤ n_0) then (
  bif decide (n_0 ≤ 8) then (
  sem1 .sl PP (Instr.buildSlice T_Sint 1 #[(0, vI k_4)]) w fun (ρ4 : Sl) ω5 =>
  sem1 .sl PP (Builtin.append_ #[T_Sint, T_Sint] T_Sint #[Sl.v out_3, Sl.v ρ4]) ω5 fun (ρ6 : Sl) ω7 =>
  k (emb3 n_0 ρ6 (w64 (k_4 + 1))) ω7)
  else (
  Q (.exit 0) (x0 out_3) w))
  else (
  Q (.exit 0) (x0 out_3) w)) := B3_eq std n_0 out_3 k_4 w k Q
theorem L3_rule (n_0 : Int) (out_3 : Sl) (k_4 : Int) (w : World) (Q : Exit → Env → World → Prop) (I : Sl → Int → World → Prop) (μ : Sl → Int → World → Nat) (h0 : I out_3 k_4 w)
    (h : ∀ (out_3 : Sl) (k_4 : Int) (w' : World), I out_3 k_4 w' → B3 std n_0 out_3 k_4 w' (fun e2 w2 => ∃ out_3_n k_4_n, e2 = emb3 n_0 out_3_n k_4_n ∧ I out_3_n k_4_n w2 ∧ μ out_3_n k_4_n w2 < μ out_3 k_4 w') Q) :
    L3 std n_0 out_3 k_4 w Q := by
  unfold L3
  refine LoopE.intro (σ := Sl × Int) (step := S3 std Q) (fun s => emb3 n_0 s.1 s.2) (fun s w => I s.1 s.2 w) (fun s w => μ s.1 s.2 w) (out_3, k_4) rfl h0 ?_
  intro s w' hI
  have h1 := h s.1 s.2 w' hI
  unfold B3 at h1
  simp only [Prod.exists]
  exact h1
theorem A3_0_eq (pr : Prims) (out_3 : Sl) (w : World) (R : Ending → World → Prop) : (q3 pr R) (.exit 0) (x0 out_3) w = (
  R (.returned (Sl.v out_3)) w) := by kernel_rfl
theorem A3_0_s (out_3 : Sl) (w : World) (R : Ending → World → Prop) : (q3 std R) (.exit 0) (x0 out_3) w = (
  R (.returned (Sl.v out_3)) w) := A3_0_eq std out_3 w R
theorem E_eq (pr : Prims) (n_0 : Int) (w : World) (R : Ending → World → Prop) : E pr n_0 w R = (
  pr.sem1 .sl PP (Instr.buildSlice T_Sint 0 #[]) w fun (ρ0 : Sl) ω1 =>
  L3 pr n_0 ρ0 1 ω1 (q3 pr R)) := by kernel_rfl
theorem E_s (n_0 : Int) (w : World) (R : Ending → World → Prop) : E std n_0 w R = (
  sem1 .sl PP (Instr.buildSlice T_Sint 0 #[]) w fun (ρ0 : Sl) ω1 =>
  L3 std n_0 ρ0 1 ω1 (q3 std R)) := E_eq std n_0 w R
theorem drawsOk : drawsOk PP cfg okD (codeOf Try.f96) = true := by kernel_rfl
theorem calls (n_0 : Int) {w : World} {R : Ending → World → Prop} (h : E std n_0 w R) : Calls PP F.spec_IdentityPerm #[vI n_0] w R :=
  calls_of noCount mixed drawOk Try.func96 rfl (c := cfg) (args := [vI n_0]) rfl (Nat.le_of_ble_eq_true (by kernel_rfl)) drawsOk h
end spec_IdentityPerm

end Go.Proofs.Ytdchjhhpbdekeaa

/- Small helpers of the model text. -/
namespace Go.Proofs.Ytdchjhhpbdekeaa
open Go Go.RowKit
set_option maxRecDepth 100000

theorem c_l1In (n lo hi : Int) : Pure F.spec_l1In #[vI n, vI lo, vI hi] (.bool (decide (lo ≤ n) && decide (n ≤ hi))) := by
  intro w
  refine spec_l1In.calls n lo hi ?_
  rw [spec_l1In.E_s]
  refine bif_dec (fun h => ?_) (fun h => ?_)
  · have h' : lo ≤ n := h
    simp [h']
  · have h' : ¬ lo ≤ n := h
    simp [h']
theorem c_l1Bit (b : Bool) : Pure F.spec_l1Bit #[.bool b] (vI (if b then 1 else 0)) := by
  intro w
  refine spec_l1Bit.calls b ?_
  rw [spec_l1Bit.E_s]
  cases b <;> simp
end Go.Proofs.Ytdchjhhpbdekeaa
